/- Each Go function comes to what its plain function gives, where that gives something. -/
import Derived.Test.YtdebndfaknfefaaGreatDoorPF
import Derived.Test.YtdebndfaknfefaaGreatDoorSq
import Derived.Test.YtdebndfaknfefaaGreatDoorWF1
import Derived.Test.YtdebndfaknfefaaGreatDoorXByt
import Derived.Test.YtdebndfaknfefaaGreatDoorXDef
import Derived.Test.YtdebndfaknfefaaGreatDoorXPan
import Derived.Test.YtdebndfaknfefaaGreatDoorXShelf
namespace Go.Proofs.YtdebndfaknfefaaGreatDoor.W
open Go Go.RowKit LJ
set_option linter.unusedVariables false
set_option linter.unusedSimpArgs false
set_option maxRecDepth 10000
theorem qT (a0:Int) (a1:Int) {r:Int} (H:gz a0 a1=some r):LJ.Spec Tryz.prog 130 [.d (.int .u64 a0), .d (.int .i64 a1)] [] (.d (.int .u64 r)) []:=by
 refine LJ.Spec.code Tryz.func130 rfl 9 rfl rfl [] rfl fun w0 F0 S0 B0=>?_
 unfold gz at H
 refine G (R 1 rfl (N (R 2 rfl ?_)))
 obtain ⟨x1,hx1,H⟩:=an H
 refine Cl [] (yP _ hx1) yQ rfl tv rfl (R 2 rfl (NQ (Wt ?_)))
 cases H
 exact Ea rfl rfl rfl tv
theorem qU:aF Tryz.prog 130 Tryz.f130:=⟨Tryz.func130,rfl,by kernel_rfl⟩
theorem nS (a0:Int) {r:Int} (H:eK a0=some r):LJ.Spec Tryz.prog 147 [.d (.int .u64 a0)] [] (.d (.int .i64 r)) []:=by
 refine LJ.Spec.code Tryz.func147 rfl 35 rfl rfl [] rfl fun w0 F0 S0 B0=>?_
 unfold eK at H
 refine G (R 1 rfl (N (R 7 rfl (N (R 7 rfl (N (R 6 rfl (N (R 5 rfl (N (R 5 rfl (N (R 5 rfl (N (R 4 rfl (NQ (Wt ?_)))))))))))))))))
 cases H
 exact Ea rfl rfl rfl tv
theorem nT:aF Tryz.prog 147 Tryz.f147:=⟨Tryz.func147,rfl,by kernel_rfl⟩
theorem ph (a0:Int) {r:Int} (H:im a0=some r):LJ.Spec Tryz.prog 131 [.d (.int .u64 a0)] [] (.d (.int .i64 r)) []:=by
 refine LJ.Spec.code Tryz.func131 rfl 5 rfl rfl [] rfl fun w0 F0 S0 B0=>?_
 unfold im at H
 refine G (R 1 rfl (N (R 1 rfl ?_)))
 obtain ⟨x1,hx1,H⟩:=an H
 refine Cl [] (nS _ hx1) nT rfl tv rfl (R 1 rfl (NQ (Wt ?_)))
 cases H
 exact Ea rfl rfl rfl tv
theorem pj:aF Tryz.prog 131 Tryz.f131:=⟨Tryz.func131,rfl,by kernel_rfl⟩
theorem yR (a0:List ab) (a1:List af) {r:Int} (H:ng a0 a1=some r):LJ.Spec Tryz.prog 107 [.d (slT ai a0), .d (slT bE a1)] [] (.d (.int .i64 r)) []:=by
 refine LJ.Spec.code Tryz.func107 rfl 52 rfl rfl [] rfl fun w0 F0 S0 B0=>?_
 unfold ng at H
 refine G (R 1 rfl (NS (G (R 3 rfl (NQ (Wd rfl H (fun H=>?_) (fun H=>?_)))))))
 ·refine G (R 1 rfl (NQ (Wt (QT.r ?_))))
  cases H
  exact Ea rfl rfl rfl tv
 refine Wk (Qn (Ws (G (R 3 rfl (NQ (Wd rfl H (fun H=>?_) (fun H=>?_)))))))
 ·refine G (R 1 rfl (NQ (Wt (QT.r ?_))))
  cases H
  exact Ea rfl rfl rfl tv
 refine Wk (Qn (G (R 2 rfl (NS (G (R 3 rfl (NQ (Wb (Wl (ι:= {x:Nat×(Int×Bool×Int) //ga a0 a1 x.1 x.2=some r}) (fun x=>[(0, .d (slT ai a0)),(1, .d (slT bE a1)),(5, .d (.int .u64 x.1.2.1)),(6, .d (.bool x.1.2.2.1)),(16, .d (slT bE a1)),(17, .d (.int .i64 (a1.length:Int))),(18, .d (.int .i64 x.1.2.2.2))]) (fun x=>[]) (fun x=>x.1.1) ⟨(fuel,(0,false,0)),H⟩ (Lm p7 tv) fun x=>?_)))))))))
 obtain ⟨⟨k4,s3⟩,H⟩:=x
 rcases k4 with _ | k4
 ·exact aO H
 rw [ga] at H
 refine G (R 1 rfl (NS (Wd rfl H (fun H=>?_) (fun H=>?_))))
 ·refine Wk (Qn (Ws (Wb (G ?_))))
  obtain ⟨g6,H⟩:=ay H
  refine RS 2 rfl ⟨⟨(al g6).1,(al g6).2,rfl⟩,tv⟩ (Wa 108 tk rfl rfl rfl (Ef 0 rfl (NS (G (R 2 rfl ?_)))))
  obtain ⟨x7,hx7,H⟩:=an H
  refine Cl [] (yN _ _ hx7) yO rfl tv rfl (R 1 rfl (N (R 2 rfl (NQ (Wd rfl H (fun H=>?_) (fun H=>?_))))))
  ·refine G (R 2 rfl (NQ (Wt (QT.r (QB.r (QT.r (QT.r (QB.r (QT.r ?_)))))))))
   cases H
   exact Ea rfl rfl rfl tv
  refine Wk (Qn (G (R 3 rfl ?_)))
  obtain ⟨x9,hx9,H⟩:=an H
  refine Cl [] (qT _ _ hx9) qU rfl tv rfl (R 1 rfl (NQ (Wg (R 2 rfl (Wx 3 1 false tk sg0 rfl rfl (fun _=>tv) (RS 2 rfl ⟨by first | exact id | exact fun h=>by rw [h];rfl | simp_all,tv⟩ (Wn (Qb (Qn ?_)))))))))
  exact Wg (R 2 rfl (NQ (⟨⟨(k4,(x9,(s3.2.1||(iEq ((a1.getD s3.2.2.toNat default).Kind) 4)),IntKind.i64.wrap (s3.2.2+1))),H⟩,Z,Lm p7 tv⟩)))
 refine WC.exit (Qx (Qx (Qh (Qn ?_))))
 refine Ws (G (R 1 rfl ?_))
 obtain ⟨x10,hx10,H⟩:=an H
 refine Cl [] (ph _ hx10) pj rfl tv rfl (R 4 rfl (Wx 2 5 false tk sg0 rfl rfl (fun _=>tv) (Wx 3 7 true tk sg0 rfl rfl (fun _=>tv) (Wx 1 5 false tk sg0 rfl rfl (fun hb=>⟨by first | exact id | exact ⟨hb,fun h=>by rw [hb,h];rfl⟩ | exact ⟨hb,id⟩ | exact fun h=>by rw [hb,h];rfl | exact fun h=>by rw [h];rfl | simp_all,tv⟩) (RS 1 rfl ⟨by first | exact id | exact fun h=>by rw [h];rfl | simp_all,tv⟩ (NQ (Wd rfl H (fun H=>?_) (fun H=>?_))))))))
 ·refine G (R 1 rfl (NQ (Wt (QT.r ?_))))
  cases H
  exact Ea rfl rfl rfl tv
 refine Wk (Qn (G (R 1 rfl (NQ (Wt ?_)))))
 cases H
 exact Ea rfl rfl rfl tv
theorem yS:aF Tryz.prog 107 Tryz.f107:=⟨Tryz.func107,rfl,by kernel_rfl⟩
theorem lD (a0:List ab) (a1:List (List af)) {r:Int} (H:hZ a0 a1=some r):LJ.Spec Tryz.prog 83 [.d (slT ai a0), .d (slT aG a1)] [] (.d (.int .i64 r)) []:=by
 refine LJ.Spec.code Tryz.func83 rfl 27 rfl rfl [] rfl fun w0 F0 S0 B0=>?_
 unfold hZ at H
 refine G (R 1 rfl (NS (G (R 3 rfl (NQ (Wd rfl H (fun H=>?_) (fun H=>?_)))))))
 ·refine G (R 1 rfl (NQ (Wt (QT.r ?_))))
  cases H
  exact Ea rfl rfl rfl tv
 refine Wk (Qn (Ws (G (R 3 rfl (NQ (Wd rfl H (fun H=>?_) (fun H=>?_)))))))
 ·refine G (R 1 rfl (NQ (Wt (QT.r ?_))))
  cases H
  exact Ea rfl rfl rfl tv
 refine Wk (Qn (Ws (G (R 3 rfl (NQ (Wb (Wl (ι:= {x:Nat×Int //ez a0 a1 x.1 x.2=some r}) (fun x=>[(0, .d (slT ai a0)),(14, .d (slT aG a1)),(15, .d (.int .i64 (a1.length:Int))),(16, .d (.int .i64 x.1.2))]) (fun x=>[]) (fun x=>x.1.1) ⟨(fuel,0),H⟩ (Lm p4 tv) fun x=>?_)))))))
 obtain ⟨⟨k4,s3⟩,H⟩:=x
 rcases k4 with _ | k4
 ·exact aO H
 rw [ez] at H
 refine G (R 1 rfl (NS (Wd rfl H (fun H=>?_) (fun H=>?_))))
 ·refine Wk (Qn (Ws (Wb (G ?_))))
  obtain ⟨g6,H⟩:=ay H
  refine RS 3 rfl ⟨⟨(al g6).1,(al g6).2,rfl⟩,tv⟩ (N (R 2 rfl ?_))
  obtain ⟨x7,hx7,H⟩:=an H
  refine Cl [] (yR _ _ hx7) yS rfl tv rfl (R 1 rfl (N (R 2 rfl (NQ (Wd rfl H (fun H=>?_) (fun H=>?_))))))
  ·refine G (R 2 rfl (NQ (Wt (QB.r (QT.r (QT.r (QB.r (QT.r ?_))))))))
   cases H
   exact Ea rfl rfl rfl tv
  refine Wk (Qb (Qn ?_))
  exact Wg (R 2 rfl (NQ (⟨⟨(k4,IntKind.i64.wrap (s3+1)),H⟩,Z,Lm p4 tv⟩)))
 refine WC.exit (Qx (Qx (Qh (Qn ?_))))
 refine G (R 1 rfl (NQ (Wt ?_)))
 cases H
 exact Ea rfl rfl rfl tv
theorem lF:aF Tryz.prog 83 Tryz.f83:=⟨Tryz.func83,rfl,by kernel_rfl⟩
theorem lV (a0:Int) {r:Bool} (H:kC a0=some r):LJ.Spec Tryz.prog 111 [.d (.int .i64 a0)] [] (.d (.bool r)) []:=by
 refine LJ.Spec.code Tryz.func111 rfl 9 rfl rfl [] rfl fun w0 F0 S0 B0=>?_
 unfold kC at H
 refine G (R 1 rfl (N (R 3 rfl (Wx 2 2 true tk sg0 rfl rfl (fun _=>tv) (RS 2 rfl ⟨by first | exact id | exact fun h=>by rw [h];rfl | simp_all,tv⟩ (NQ (Wt ?_)))))))
 cases H
 exact Ea rfl rfl rfl tv
theorem lW:aF Tryz.prog 111 Tryz.f111:=⟨Tryz.func111,rfl,by kernel_rfl⟩
theorem kU (a0:ByteArray) {r:List ByteArray} (H:eT a0=some r):LJ.Spec Tryz.prog 112 [.d (.str a0)] [] (.d (slT fH r)) []:=by
 refine LJ.Spec.code Tryz.func112 rfl 106 rfl rfl [] rfl fun w0 F0 S0 B0=>?_
 unfold eT at H
 refine G (R 1 rfl (N (R 1 rfl (N (R 1 rfl (N (R 1 rfl (NS (G (R 1 rfl (NQ (Wb (Wl (ι:= {x:Nat×(Int×Int×Int×Int) //fw a0 x.1 x.2=some r}) (fun x=>[(0, .d (.str a0)),(3, .d (.int .i64 x.1.2.1)),(4, .d (.int .i64 x.1.2.2.1)),(5, .d (.int .u8 x.1.2.2.2.1)),(6, .d (.int .i64 x.1.2.2.2.2))]) (fun x=>[]) (fun x=>x.1.1) ⟨(fuel,(0,1,0,0)),H⟩ (Lm p5 tv) fun x=>?_)))))))))))))
 obtain ⟨⟨k2,s1⟩,H⟩:=x
 rcases k2 with _ | k2
 ·exact aO H
 rw [fw] at H
 refine Ws (G (R 4 rfl (NQ (Wd rfl H (fun H=>?_) (fun H=>?_)))))
 ·refine Wk (Qn (Ws (Wb (G ?_))))
  obtain ⟨g4,H⟩:=ay H
  refine RS 4 rfl ⟨(al g4),tv⟩ (N (R 4 rfl (N (R 1 rfl ?_))))
  obtain ⟨g5,H⟩:=ay H
  refine WL.yv (LJ.Y.idxElpA 256 (fun k=> .int .u8 (aZ.getD k default)) (bf a0 s1.2.2.2.toNat) (by kernel_rfl) rfl rfl rfl mF (al g5)) rfl rfl rfl (R 3 rfl (N (R 7 rfl (NQ (Wg (R 2 rfl (Wn (Qb (Qn ?_)))))))))
  exact Wg (R 3 rfl (NQ (⟨⟨(k2,(IntKind.i64.wrap (s1.1+(Go.bits .and .i64 s1.2.1 (Go.bits .xor .i64 (cond IntKind.i64.signed (-1) IntKind.i64.max) (IntKind.i64.wrap (aZ.getD (bf a0 s1.2.2.2.toNat).toNat default))))),IntKind.i64.wrap (aZ.getD (bf a0 s1.2.2.2.toNat).toNat default),Go.bits .or .u8 s1.2.2.1 (bf a0 s1.2.2.2.toNat),IntKind.i64.wrap (s1.2.2.2+1))),H⟩,Z,Lm p5 tv⟩)))
 refine WC.exit (Qx (Qx (Qh (Qn ?_))))
 refine Ws (G (R 2 rfl (NQ (Wd rfl H (fun H=>?_) (fun H=>?_)))))
 ·exact aO H
 refine Wk (Qn (G (R 1 rfl ?_)))
 obtain ⟨g7,H⟩:=ay H
 refine WL.makeT (r:=141) fH (ByteArray.empty:ByteArray) s1.1 tk ek rfl rfl rfl rfl rfl rfl rfl (qm g7) rfl rfl rfl rfl (R 1 rfl (N (R 1 rfl (N (R 1 rfl (N (R 1 rfl (NQ ?_))))))))
 obtain ⟨K8,hK8,H⟩:=db H
 refine WC.cut (fun E m=>∃ s9:Int,K8 s9=some r∧iA E m [(0, .d (.str a0)),(9, .own 141),(10, .d (.int .i64 0)),(12, .d (.int .i64 s9))] [(141, .row 9 1 ((List.replicate s1.1.toNat (ByteArray.empty:ByteArray)).map fH))]) ?_ ?_
 ·refine Wb (Wl (ι:= {x:Nat×Int //fc a0 K8 x.1 x.2=some r}) (fun x=>[(0, .d (.str a0)),(9, .own 141),(10, .d (.int .i64 0)),(12, .d (.int .i64 x.1.2))]) (fun x=>[(141, .row 9 1 ((List.replicate s1.1.toNat (ByteArray.empty:ByteArray)).map fH))]) (fun x=>x.1.1) ⟨(fuel,0),H⟩ (Lm p4 p1) fun x=>?_)
  obtain ⟨⟨k11,s10⟩,H⟩:=x
  rcases k11 with _ | k11
  ·exact aO H
  rw [fc] at H
  refine Ws (G (R 5 rfl (WL.split (g:=46) rfl (fun h12=>?_) (fun h12=>?_))))
  ·replace H:=of_t H h12
   obtain ⟨g13,H⟩:=ay H
   refine WL.grun 3 4 true 46 tk sg0 rfl rfl rfl rfl ⟨(al g13),tv⟩ ?_
   obtain ⟨g14,H⟩:=ay H
   refine WL.gyv (LJ.Y.idxElpA 256 (fun k=> .int .u8 (aZ.getD k default)) (bf a0 s10.toNat) (by kernel_rfl) rfl rfl rfl mF (al g14)) rfl rfl rfl rfl rfl rfl (WL.grun 2 4 true 46 tk sg0 rfl rfl rfl rfl tv (WL.pickT rfl rfl rfl rfl rfl rfl (NQ (Wd rfl H (fun H=>?_) (fun H=>?_)))))
   ·refine Wk (Qn (Wb (Wg (R 3 rfl (Wn (Qb (Qn ?_)))))))
    exact ⟨⟨(k11,IntKind.i64.wrap (s10+1)),H⟩,Z,Lm p4 p1⟩
   refine WC.exit (Qx (Qx (Qh (Qn ?_))))
   exact ⟨s10,H,Lw q4 p1⟩
  ·replace H:=of_f H h12
   refine WL.gskips 6 4 true 46 rfl rfl rfl rfl (WL.pickF rfl rfl rfl rfl rfl rfl (NQ (Wc rfl (fun h=>absurd h (by decide)) (fun h=>?_))))
   refine WC.exit (Qx (Qx (Qh (Qn ?_))))
   exact ⟨s10,H,Lw q4 p1⟩
 ·rintro E m ⟨s9,H,hl⟩
  refine WC.lessW hl ?_
  replace H:=(hK8 _).symm.trans H
  try dsimp only at H
  refine G (R 2 rfl (NQ ?_))
  obtain ⟨K16,hK16,H⟩:=db H
  refine WC.cut (fun E m=>∃ s17:Int×Int×(List ByteArray),K16 s17=some r∧iA E m [(0, .d (.str a0)),(9, .own 141),(10, .d (.int .i64 s17.1)),(11, .d (.int .i64 s17.2.1))] [(141, .row 9 1 (s17.2.2.map fH))]) ?_ ?_
  ·refine Wb (Wl (ι:= {x:Nat×(Int×Int×Int×(List ByteArray)) //dM a0 K16 x.1 x.2=some r}) (fun x=>[(0, .d (.str a0)),(9, .own 141),(10, .d (.int .i64 x.1.2.1)),(11, .d (.int .i64 x.1.2.2.1)),(12, .d (.int .i64 x.1.2.2.2.1))]) (fun x=>[(141, .row 9 1 (x.1.2.2.2.2.map fH))]) (fun x=>x.1.1) ⟨(fuel,(0,s9,s9,List.replicate s1.1.toNat (ByteArray.empty:ByteArray))),H⟩ (Lm p5 p1) fun x=>?_)
   obtain ⟨⟨k19,s18⟩,H⟩:=x
   rcases k19 with _ | k19
   ·exact aO H
   rw [dM] at H
   refine Ws (G (R 4 rfl (NQ (Wd rfl H (fun H=>?_) (fun H=>?_)))))
   ·refine Wk (Qn (Wb (Ws (G ?_))))
    obtain ⟨g21,H⟩:=ay H
    refine RS 3 rfl ⟨(al g21),tv⟩ ?_
    obtain ⟨g22,H⟩:=ay H
    refine WL.yv (LJ.Y.idxElpA 256 (fun k=> .int .u8 (aZ.getD k default)) (bf a0 s18.2.2.1.toNat) (by kernel_rfl) rfl rfl rfl mF (al g22)) rfl rfl rfl (R 2 rfl (NQ (Wd rfl H (fun H=>?_) (fun H=>?_))))
    ·refine G (R 3 rfl (NQ (WC.exit (Qx (Qh (Qn ?_))))))
     exact ⟨⟨(k19,(s18.1,s18.2.1,IntKind.i64.wrap (s18.2.2.1+1),s18.2.2.2)),H⟩,Z,Lm p5 p1⟩
    refine Wk (Qn (G ?_))
    obtain ⟨g24,H⟩:=ay H
    refine RS 6 rfl ⟨(xe g24),tv⟩ ?_
    obtain ⟨g25,H⟩:=ay H
    refine WL.yv (LJ.Y.idxRel fH s18.2.2.2 s18.1 tk rfl rfl rfl rfl rfl (al g25)) rfl rfl rfl (WL.storeRel fH s18.2.2.2 s18.1 0 (a0.extract s18.2.1.toNat s18.2.2.1.toNat) (.str (a0.extract s18.2.1.toNat s18.2.2.1.toNat)) rfl rfl rfl rfl (fun _=>rfl) rfl (by kernel_rfl) rfl rfl (by first | exact al g25 | (have:=al g25;simpa only [List.length_set,List.length_map] using this)) rfl rfl rfl rfl ?_)
    refine N (R 3 rfl (N (R 3 rfl (NQ ?_))))
    obtain ⟨K26,hK26,H⟩:=db H
    refine WC.cut (fun E m=>∃ s27:Int,K26 s27=some r∧iA E m [(0, .d (.str a0)),(9, .own 141),(10, .d (.int .i64 (IntKind.i64.wrap (s18.1+1)))),(12, .d (.int .i64 s27))] [(141, .row 9 1 ((s18.2.2.2.set s18.1.toNat (a0.extract s18.2.1.toNat s18.2.2.1.toNat)).map fH))]) ?_ ?_
    ·refine Wb (Wl (ι:= {x:Nat×Int //fe a0 K26 x.1 x.2=some r}) (fun x=>[(0, .d (.str a0)),(9, .own 141),(10, .d (.int .i64 (IntKind.i64.wrap (s18.1+1)))),(12, .d (.int .i64 x.1.2))]) (fun x=>[(141, .row 9 1 ((s18.2.2.2.set s18.1.toNat (a0.extract s18.2.1.toNat s18.2.2.1.toNat)).map fH))]) (fun x=>x.1.1) ⟨(fuel,IntKind.i64.wrap (s18.2.2.1+1)),H⟩ (Lm p4 p1) fun x=>?_)
     obtain ⟨⟨k29,s28⟩,H⟩:=x
     rcases k29 with _ | k29
     ·exact aO H
     rw [fe] at H
     refine Ws (G (R 5 rfl (WL.split (g:=84) rfl (fun h30=>?_) (fun h30=>?_))))
     ·replace H:=of_t H h30
      obtain ⟨g31,H⟩:=ay H
      refine WL.grun 3 4 true 84 tk sg0 rfl rfl rfl rfl ⟨(al g31),tv⟩ ?_
      obtain ⟨g32,H⟩:=ay H
      refine WL.gyv (LJ.Y.idxElpA 256 (fun k=> .int .u8 (aZ.getD k default)) (bf a0 s28.toNat) (by kernel_rfl) rfl rfl rfl mF (al g32)) rfl rfl rfl rfl rfl rfl (WL.grun 2 4 true 84 tk sg0 rfl rfl rfl rfl tv (WL.pickT rfl rfl rfl rfl rfl rfl (NQ (Wd rfl H (fun H=>?_) (fun H=>?_)))))
      ·refine Wk (Qn (Wb (Wg (R 3 rfl (Wn (Qb (Qn ?_)))))))
       exact ⟨⟨(k29,IntKind.i64.wrap (s28+1)),H⟩,Z,Lm p4 p1⟩
      refine WC.exit (Qx (Qx (Qh (Qn ?_))))
      exact ⟨s28,H,Lw q4 p1⟩
     ·replace H:=of_f H h30
      refine WL.gskips 6 4 true 84 rfl rfl rfl rfl (WL.pickF rfl rfl rfl rfl rfl rfl (NQ (Wc rfl (fun h=>absurd h (by decide)) (fun h=>?_))))
      refine WC.exit (Qx (Qx (Qh (Qn ?_))))
      exact ⟨s28,H,Lw q4 p1⟩
    ·rintro E m ⟨s27,H,hl⟩
     refine WC.lessW hl ?_
     replace H:=(hK26 _).symm.trans H
     try dsimp only at H
     refine Wg (R 2 rfl (Wn (Qb (Qn ?_))))
     exact ⟨⟨(k19,(IntKind.i64.wrap (s18.1+1),s27,s27,s18.2.2.2.set s18.1.toNat (a0.extract s18.2.1.toNat s18.2.2.1.toNat))),H⟩,Z,Lm p5 p1⟩
   refine WC.exit (Qx (Qx (Qh (Qn ?_))))
   exact ⟨(s18.1,s18.2.1,s18.2.2.2),H,Lw q4 p1⟩
  ·rintro E m ⟨s17,H,hl⟩
   refine WC.lessW hl ?_
   replace H:=(hK16 _).symm.trans H
   try dsimp only at H
   refine Ws (G (R 4 rfl (NQ (Wd rfl H (fun H=>?_) (fun H=>?_)))))
   ·refine Wg ?_
    obtain ⟨g35,H⟩:=ay H
    refine RS 5 rfl ⟨(qh g35),tv⟩ ?_
    obtain ⟨g36,H⟩:=ay H
    refine WL.yv (LJ.Y.idxRel fH s17.2.2 s17.1 tk rfl rfl rfl rfl rfl (al g36)) rfl rfl rfl (WL.storeRel fH s17.2.2 s17.1 0 (a0.extract s17.2.1.toNat a0.size) (.str (a0.extract s17.2.1.toNat a0.size)) rfl rfl rfl rfl (fun _=>rfl) rfl (by kernel_rfl) rfl rfl (by first | exact al g36 | (have:=al g36;simpa only [List.length_set,List.length_map] using this)) rfl rfl rfl rfl ?_)
    refine N (R 2 rfl (NQ (WC.freezeT 141 fH (s17.2.2.set s17.1.toNat (a0.extract s17.2.1.toNat a0.size)) rfl rfl rfl rfl (Wt ?_))))
    cases H
    exact Ea rfl rfl rfl tv
   refine Wk (Qn (G (R 2 rfl (NQ (WC.freezeT 141 fH s17.2.2 rfl rfl rfl rfl (Wt ?_))))))
   cases H
   exact Ea rfl rfl rfl tv
theorem kV:aF Tryz.prog 112 Tryz.f112:=⟨Tryz.func112,rfl,by kernel_rfl⟩
theorem u0 (a0:Int) {r:ByteArray} (H:mm a0=some r):LJ.Spec Tryz.prog 109 [.d (.int .i64 a0)] [] (.d (.str r)) []:=by
 refine LJ.Spec.code Tryz.func109 rfl 10 rfl rfl [] rfl fun w0 F0 S0 B0=>?_
 unfold mm at H
 refine G (R 1 rfl (NS (G (R 1 rfl ?_))))
 obtain ⟨x1,hx1,H⟩:=an H
 refine Cl [] (lV _ hx1) lW rfl tv rfl (R 1 rfl (NQ (Wd rfl H (fun H=>?_) (fun H=>?_))))
 ·refine G (R 1 rfl (NQ (Wt (QT.r ?_))))
  cases H
  exact Ea rfl rfl rfl tv
 refine Wk (Qn (G ?_))
 obtain ⟨x3,hx3,H⟩:=an H
 refine Cl [] (kU _ hx3) kV rfl tv rfl ?_
 obtain ⟨g4,H⟩:=ay H
 refine RS 4 rfl ⟨⟨(al g4).1,(al g4).2,rfl⟩,tv⟩ (NQ (Wt ?_))
 cases H
 exact Ea rfl rfl rfl tv
theorem u4:aF Tryz.prog 109 Tryz.f109:=⟨Tryz.func109,rfl,by kernel_rfl⟩
theorem gK (a0:Int) {r:ByteArray} (H:kD a0=some r):LJ.Spec Tryz.prog 88 [.d (.int .i64 a0)] [] (.d (.str r)) []:=by
 refine LJ.Spec.code Tryz.func88 rfl 14 rfl rfl [] rfl fun w0 F0 S0 B0=>?_
 unfold kD at H
 refine G (R 1 rfl (NS (G (R 1 rfl ?_))))
 obtain ⟨x1,hx1,H⟩:=an H
 refine Cl [] (lV _ hx1) lW rfl tv rfl (R 1 rfl (NQ (Wd rfl H (fun H=>?_) (fun H=>?_))))
 ·refine G (R 1 rfl (NQ (Wt (QT.r ?_))))
  cases H
  exact Ea rfl rfl rfl tv
 refine Wk (Qn (G ?_))
 obtain ⟨x3,hx3,H⟩:=an H
 refine Cl [] (kU _ hx3) kV rfl tv rfl ?_
 obtain ⟨g4,H⟩:=ay H
 refine RS 4 rfl ⟨⟨(al g4).1,(al g4).2,rfl⟩,tv⟩ (NS (G (R 2 rfl (NQ (Wd rfl H (fun H=>?_) (fun H=>?_))))))
 ·refine G (R 1 rfl (NQ (Wt (QT.r ?_))))
  cases H
  exact Ea rfl rfl rfl tv
 refine Wk (Qn (G (R 2 rfl (NQ (Wt ?_)))))
 cases H
 exact Ea rfl rfl rfl tv
theorem gL:aF Tryz.prog 88 Tryz.f88:=⟨Tryz.func88,rfl,by kernel_rfl⟩
theorem B2 (a0:Int) (a1:Int) {r:Bool} (H:uv a0 a1=some r):LJ.Spec Tryz.prog 110 [.d (.int .u8 a0), .d (.int .i64 a1)] [] (.d (.bool r)) []:=by
 refine LJ.Spec.code Tryz.func110 rfl 56 rfl rfl [] rfl fun w0 F0 S0 B0=>?_
 unfold uv at H
 refine G (R 1 rfl (NS (G (R 1 rfl (NQ (Wb (G (R 2 rfl (NQ (Wd rfl H (fun H=>?_) (fun H=>?_)))))))))))
 ·refine G (R 1 rfl ?_)
  obtain ⟨x2,hx2,H⟩:=an H
  refine Cl [] (qR _ hx2) qS rfl tv rfl (R 1 rfl (NQ (Wt (QB.r (QT.r ?_)))))
  cases H
  exact Ea rfl rfl rfl tv
 refine G (R 2 rfl (NQ (Wd rfl H (fun H=>?_) (fun H=>?_))))
 ·refine G (R 3 rfl (Wx 2 2 true tk sg0 rfl rfl (fun _=>tv) (RS 2 rfl ⟨by first | exact id | exact fun h=>by rw [h];rfl | simp_all,tv⟩ (NQ (Wt (QB.r (QT.r ?_)))))))
  cases H
  exact Ea rfl rfl rfl tv
 refine G (R 2 rfl (NQ (Wd rfl H (fun H=>?_) (fun H=>?_))))
 ·refine G (R 3 rfl (Wx 2 2 true tk sg0 rfl rfl (fun _=>tv) (RS 2 rfl ⟨by first | exact id | exact fun h=>by rw [h];rfl | simp_all,tv⟩ (NQ (Wt (QB.r (QT.r ?_)))))))
  cases H
  exact Ea rfl rfl rfl tv
 refine G (R 2 rfl (NQ (Wd rfl H (fun H=>?_) (fun H=>?_))))
 ·refine G (R 3 rfl (Wx 2 2 true tk sg0 rfl rfl (fun _=>tv) (RS 2 rfl ⟨by first | exact id | exact fun h=>by rw [h];rfl | simp_all,tv⟩ (NQ (Wt (QB.r (QT.r ?_)))))))
  cases H
  exact Ea rfl rfl rfl tv
 refine G (R 2 rfl (NQ (Wd rfl H (fun H=>?_) (fun H=>?_))))
 ·refine G (R 3 rfl (Wx 2 2 true tk sg0 rfl rfl (fun _=>tv) (RS 2 rfl ⟨by first | exact id | exact fun h=>by rw [h];rfl | simp_all,tv⟩ (NQ (Wt (QB.r (QT.r ?_)))))))
  cases H
  exact Ea rfl rfl rfl tv
 refine G (R 2 rfl (NQ (Wd rfl H (fun H=>?_) (fun H=>?_))))
 ·refine G (R 3 rfl (Wx 2 2 true tk sg0 rfl rfl (fun _=>tv) (RS 2 rfl ⟨by first | exact id | exact fun h=>by rw [h];rfl | simp_all,tv⟩ (NQ (Wt (QB.r (QT.r ?_)))))))
  cases H
  exact Ea rfl rfl rfl tv
 refine Wk (Qb (Qn ?_))
 refine G (R 3 rfl (Wx 2 2 true tk sg0 rfl rfl (fun _=>tv) (RS 2 rfl ⟨by first | exact id | exact fun h=>by rw [h];rfl | simp_all,tv⟩ (NQ (Wt ?_)))))
 cases H
 exact Ea rfl rfl rfl tv
theorem B3:aF Tryz.prog 110 Tryz.f110:=⟨Tryz.func110,rfl,by kernel_rfl⟩
theorem mz (a0:ar) {r:Int} (H:jn a0=some r):LJ.Spec Tryz.prog 87 [.d (.agg [.int .i64 a0.Op, .int .i64 a0.A, .int .i64 a0.B])] [] (.d (.int .i64 r)) []:=by
 refine LJ.Spec.code Tryz.func87 rfl 54 rfl rfl [] rfl fun w0 F0 S0 B0=>?_
 unfold jn at H
 refine G (Ef 101 rfl (R 1 rfl (NS (G (R 2 rfl ?_)))))
 obtain ⟨x1,hx1,H⟩:=an H
 refine Cl [] (u0 _ hx1) u4 rfl tv rfl (R 1 rfl (NQ (Wd rfl H (fun H=>?_) (fun H=>?_))))
 ·refine G (R 1 rfl (NQ (Wt (QT.r ?_))))
  cases H
  exact Ea rfl rfl rfl tv
 refine Wk (Qn (Ws ?_))
 obtain ⟨x3_2_1,hx3_2_1,H⟩:=an H
 refine WC.heldF [(1, .ptr 101 0),(3, .d (.str x3_2_1)),(4, .ptr 104 0)] [(101, .box 100 [.d (.int .i64 a0.Op), .d (.int .i64 a0.A), .d (.int .i64 a0.B)]),(104, .box 161 [.d (.int .i64 a0.A), .d (.int .i64 a0.B)])] (sT 0 (sT 1 (sT 3 (sT 4 (sT 5 (sT 6 (sT 7 (fk (sf 2 (sf 8 (sT 9 (sf 10 sd)))) (sf 8 (sf 2 (sT 9 (sf 10 sd)))))))))))) [101] [101] rfl (by kernel_rfl) rfl (by kernel_rfl) rfl rfl (fun _ h=>h) rfl rfl rfl (fun FK NK wK K=>?_) ?_
 ·refine Hr 6 tk rfl rfl rfl rfl tv (WH.yv rfl (LJ.Y.buildArr 2 [.int .i64 0, .int .i64 0] [.int .i64 a0.A, .int .i64 a0.B] (by kernel_rfl) (by kernel_rfl) rfl rfl rfl) rfl rfl rfl (WH.fork ?_ ?_))
  ·exact WH.call [] rfl (gK _ hx3_2_1) gL rfl rfl tv rfl rfl rfl rfl rfl (WH.allocZ 104 [.int .i64 0, .int .i64 0] rfl rfl (by kernel_rfl) rfl rfl rfl rfl rfl rfl (Hr 1 tk rfl rfl rfl rfl tv (He 0 tk ek rfl rfl rfl rfl tv rfl rfl (Hn rfl (Lw q3 p2)))))
  ·exact WH.allocZ 104 [.int .i64 0, .int .i64 0] rfl rfl (by kernel_rfl) rfl rfl rfl rfl rfl rfl (WH.call [] rfl (gK _ hx3_2_1) gL rfl rfl tv rfl rfl rfl rfl rfl (Hr 1 tk rfl rfl rfl rfl tv (He 0 tk ek rfl rfl rfl rfl tv rfl rfl (Hn rfl (Lw q3 p2)))))
 ·refine Qn (Ws (G (R 3 rfl (NQ (Wb (Wl (ι:= {x:Nat×Int //dv a0 x3_2_1 x.1 x.2=some r}) (fun x=>[(1, .ptr 101 0),(3, .d (.str x3_2_1)),(4, .ptr 104 0),(21, .d (.int .i64 (x3_2_1.size:Int))),(22, .d (.int .i64 x.1.2))]) (fun x=>[(101, .box 100 [.d (.int .i64 a0.Op), .d (.int .i64 a0.A), .d (.int .i64 a0.B)]),(104, .box 161 [.d (.int .i64 a0.A), .d (.int .i64 a0.B)])]) (fun x=>x.1.1) ⟨(fuel,0),H⟩ (Lm p5 p2) fun x=>?_))))))
  obtain ⟨⟨k4,s3⟩,H⟩:=x
  rcases k4 with _ | k4
  ·exact aO H
  rw [dv] at H
  refine G (R 1 rfl (NS (Wd rfl H (fun H=>?_) (fun H=>?_))))
  ·refine Wk (Qn (Ws (Wb (G (R 2 rfl (NS (Hp (.one 0 true (.one 1 true (.one 2 true (.one 3 true (.one 4 true (.one 5 true (.one 6 false (.one 7 true .done)))))))) [101,104] [101,104] rfl (by kernel_rfl) rfl (by kernel_rfl) rfl rfl (fun _ h=>h) rfl rfl rfl (fun _ _ _ h=>h) fun FK NK wK K=>?_)))))))
   obtain ⟨g6,H⟩:=ay H
   refine Hr 4 tk rfl rfl rfl rfl ⟨(al g6),tv⟩ ?_
   obtain ⟨g7,H⟩:=ay H
   refine WH.yv rfl (LJ.Y.idxPtrA 2 s3 (by kernel_rfl) rfl rfl rfl (al g7)) rfl rfl rfl (WH.yv rfl (LJ.Y.loadPtrA 2 0 (fun k=> .int .i64 (([a0.A,a0.B]:List Int).getD k default)) s3 rfl rfl rfl (by kernel_rfl) rfl (al g7)) rfl rfl rfl ?_)
   obtain ⟨x8,hx8,H⟩:=an H
   refine WH.call [] rfl (B2 _ _ hx8) B3 rfl rfl tv rfl rfl rfl rfl rfl (Hr 1 tk rfl rfl rfl rfl tv (WH.nil rfl (Qn (Wd rfl H (fun H=>?_) (fun H=>?_)))))
   ·refine G (R 1 rfl (NQ (Wt (QB.r (QT.r (QT.r (QB.r (QT.r ?_))))))))
    cases H
    exact Ea rfl rfl rfl tv
   refine Wk (Qb (Qn ?_))
   exact Wg (R 2 rfl (NQ (⟨⟨(k4,IntKind.i64.wrap (s3+1)),H⟩,Z,Lm p5 p2⟩)))
  refine WC.exit (Qx (Qx (Qh (Qn ?_))))
  refine Ws (G (R 3 rfl (Wx 5 2 true tk sg0 rfl rfl (fun _=>tv) (RS 1 rfl ⟨by first | exact id | exact fun h=>by rw [h];rfl | simp_all,tv⟩ (NQ (Wd rfl H (fun H=>?_) (fun H=>?_)))))))
  ·refine G (R 1 rfl (NQ (Wt (QT.r ?_))))
   cases H
   exact Ea rfl rfl rfl tv
  refine Wk (Qn (Ws (G (R 2 rfl ?_))))
  obtain ⟨g11,H⟩:=ay H
  refine WL.yv (LJ.Y.slicePsl 2 (x3_2_1.size:Int) ((2:Nat):Int) (by kernel_rfl) rfl rfl ⟨_,rfl⟩ rfl (xe g11)) rfl rfl rfl (WL.yv (LJ.Y.lenPsl tk rfl rfl rfl) rfl rfl rfl (R 1 rfl (NQ (Wb (Wl (ι:= {x:Nat×Int //cU a0 x3_2_1 x.1 x.2=some r}) (fun x=>[(45, .psl 104 (0+(x3_2_1.size:Int).toNat) (((2:Nat):Int) - (x3_2_1.size:Int)).toNat (2 - (x3_2_1.size:Int).toNat)),(46, .d (.int .i64 ((((2:Nat):Int) - (x3_2_1.size:Int)).toNat:Int))),(47, .d (.int .i64 x.1.2))]) (fun x=>[(104, .box 161 [.d (.int .i64 a0.A), .d (.int .i64 a0.B)])]) (fun x=>x.1.1) ⟨(fuel,0),H⟩ (Lm p3 p1) fun x=>?_)))))
  obtain ⟨⟨k13,s12⟩,H⟩:=x
  rcases k13 with _ | k13
  ·exact aO H
  rw [cU] at H
  refine G (R 1 rfl (NS (Wd rfl H (fun H=>?_) (fun H=>?_))))
  ·refine Wk (Qn (Ws (Wb (G ?_))))
   obtain ⟨g15,H⟩:=ay H
   obtain ⟨g16,H⟩:=ay H
   obtain ⟨g17,H⟩:=ay H
   refine WL.yv (LJ.Y.idxPsl (x3_2_1.size:Int) s12 0 tk rfl rfl rfl rfl (zS g15) (al g16)) rfl rfl rfl (WL.yv (LJ.Y.loadPtrA 2 0 (fun k=> .int .i64 (([a0.A,a0.B]:List Int).getD k default)) ((x3_2_1.size:Int)+s12) rfl rfl rfl (by kernel_rfl) rfl (al g17)) rfl rfl rfl (R 1 rfl (N (R 2 rfl (NQ (Wd rfl H (fun H=>?_) (fun H=>?_)))))))
   ·refine G (R 1 rfl (NQ (Wt (QB.r (QT.r (QT.r (QB.r (QT.r ?_))))))))
    cases H
    exact Ea rfl rfl rfl tv
   refine Wk (Qb (Qn ?_))
   exact Wg (R 2 rfl (NQ (⟨⟨(k13,IntKind.i64.wrap (s12+1)),H⟩,Z,Lm p3 p1⟩)))
  refine WC.exit (Qx (Qx (Qh (Qn ?_))))
  refine G (R 1 rfl (NQ (Wt ?_)))
  cases H
  exact Ea rfl rfl rfl tv
theorem mA:aF Tryz.prog 87 Tryz.f87:=⟨Tryz.func87,rfl,by kernel_rfl⟩
theorem qV (a0:aq) {r:Int} (H:gA a0=some r):LJ.Spec Tryz.prog 84 [.d (.agg [.int .i64 a0.Args, .int .i64 a0.Locals,slT aE a0.Code])] [] (.d (.int .i64 r)) []:=by
 refine LJ.Spec.code Tryz.func84 rfl 45 rfl rfl [] rfl fun w0 F0 S0 B0=>?_
 unfold gA at H
 refine G (Ef 101 rfl (R 1 rfl (NS (Wb (G (R 4 rfl (Wx 5 3 false tk sg0 rfl rfl (fun _=>tv) (RS 2 rfl ⟨by first | exact id | exact fun h=>by rw [h];rfl | simp_all,tv⟩ (Wx 3 10 false tk sg0 rfl rfl (fun _=>tv) (RS 2 rfl ⟨by first | exact id | exact fun h=>by rw [h];rfl | simp_all,tv⟩ (NQ (Wd rfl H (fun H=>?_) (fun H=>?_)))))))))))))
 ·refine G (R 1 rfl (NQ (Wt (QB.r (QT.r ?_)))))
  cases H
  exact Ea rfl rfl rfl tv
 refine G (R 5 rfl (NQ (Wd rfl H (fun H=>?_) (fun H=>?_))))
 ·refine G (R 1 rfl (NQ (Wt (QB.r (QT.r ?_)))))
  cases H
  exact Ea rfl rfl rfl tv
 refine G (R 5 rfl (NQ (Wd rfl H (fun H=>?_) (fun H=>?_))))
 ·refine G (R 1 rfl (NQ (Wt (QB.r (QT.r ?_)))))
  cases H
  exact Ea rfl rfl rfl tv
 refine Wk (Qb (Qn ?_))
 refine Ws (G (R 4 rfl (NQ (Wb (Wl (ι:= {x:Nat×Int //cM a0 x.1 x.2=some r}) (fun x=>[(33, .d (slT aE a0.Code)),(34, .d (.int .i64 (a0.Code.length:Int))),(35, .d (.int .i64 x.1.2))]) (fun x=>[]) (fun x=>x.1.1) ⟨(fuel,0),H⟩ (Lm p3 tv) fun x=>?_)))))
 obtain ⟨⟨k5,s4⟩,H⟩:=x
 rcases k5 with _ | k5
 ·exact aO H
 rw [cM] at H
 refine G (R 1 rfl (NS (Wd rfl H (fun H=>?_) (fun H=>?_))))
 ·refine Wk (Qn (Ws (Wb (G ?_))))
  obtain ⟨g7,H⟩:=ay H
  refine RS 2 rfl ⟨⟨(al g7).1,(al g7).2,rfl⟩,tv⟩ (Wa 104 tk rfl rfl rfl (Ef 0 rfl (N (R 1 rfl ?_))))
  obtain ⟨x8,hx8,H⟩:=an H
  refine Cl [] (mz _ hx8) mA rfl tv rfl (R 1 rfl (N (R 2 rfl (NQ (Wd rfl H (fun H=>?_) (fun H=>?_))))))
  ·refine G (R 2 rfl (NQ (Wt (QB.r (QT.r (QT.r (QB.r (QT.r ?_))))))))
   cases H
   exact Ea rfl rfl rfl tv
  refine Wk (Qb (Qn ?_))
  exact Wg (R 2 rfl (NQ (⟨⟨(k5,IntKind.i64.wrap (s4+1)),H⟩,Z,Lm p3 tv⟩)))
 refine WC.exit (Qx (Qx (Qh (Qn ?_))))
 refine G (R 1 rfl (NQ (Wt ?_)))
 cases H
 exact Ea rfl rfl rfl tv
theorem qW:aF Tryz.prog 84 Tryz.f84:=⟨Tryz.func84,rfl,by kernel_rfl⟩
theorem lG (a0:ah) {r:Int} (H:ia a0=some r):LJ.Spec Tryz.prog 49 [.d (.agg [slT ai a0.Decls,slT aa a0.Waits,slT ak a0.Funcs])] [] (.d (.int .i64 r)) []:=by
 refine LJ.Spec.code Tryz.func49 rfl 60 rfl rfl [] rfl fun w0 F0 S0 B0=>?_
 unfold ia at H
 refine G (Ef 101 rfl (R 1 rfl (NS (G (R 2 rfl ?_)))))
 obtain ⟨x1,hx1,H⟩:=an H
 refine Cl [] (lB _ hx1) lC rfl tv rfl (R 5 rfl (N (R 2 rfl (NQ (Wd rfl H (fun H=>?_) (fun H=>?_))))))
 ·refine G (R 2 rfl (NQ (Wt (QT.r ?_))))
  cases H
  exact Ea rfl rfl rfl tv
 refine Wk (Qn (Ws (G (R 4 rfl (NQ (Wd rfl H (fun H=>?_) (fun H=>?_)))))))
 ·refine G (R 1 rfl (NQ (Wt (QT.r ?_))))
  cases H
  exact Ea rfl rfl rfl tv
 refine Wk (Qn (Ws (G (R 4 rfl (NQ (Wb (Wl (ι:= {x:Nat×Int //eA a0 x.1 x.2=some r}) (fun x=>[(1, .ptr 101 0),(25, .d (slT aa a0.Waits)),(26, .d (.int .i64 (a0.Waits.length:Int))),(27, .d (.int .i64 x.1.2))]) (fun x=>[(101, .box 28 [.d (slT ai a0.Decls), .d (slT aa a0.Waits), .d (slT ak a0.Funcs)])]) (fun x=>x.1.1) ⟨(fuel,0),H⟩ (Lm p4 p1) fun x=>?_)))))))
 obtain ⟨⟨k5,s4⟩,H⟩:=x
 rcases k5 with _ | k5
 ·exact aO H
 rw [eA] at H
 refine G (R 1 rfl (NS (Wd rfl H (fun H=>?_) (fun H=>?_))))
 ·refine Wk (Qn (Ws (Wb (G ?_))))
  obtain ⟨g7,H⟩:=ay H
  refine RS 3 rfl ⟨⟨(al g7).1,(al g7).2,rfl⟩,tv⟩ (N (R 3 rfl ?_))
  obtain ⟨x8,hx8,H⟩:=an H
  refine Cl [] (lD _ _ hx8) lF rfl tv rfl (R 1 rfl (N (R 2 rfl (NQ (Wd rfl H (fun H=>?_) (fun H=>?_))))))
  ·refine G (R 2 rfl (NQ (Wt (QB.r (QT.r (QT.r (QB.r (QT.r ?_))))))))
   cases H
   exact Ea rfl rfl rfl tv
  refine Wk (Qb (Qn ?_))
  exact Wg (R 2 rfl (NQ (⟨⟨(k5,IntKind.i64.wrap (s4+1)),H⟩,Z,Lm p4 p1⟩)))
 refine WC.exit (Qx (Qx (Qh (Qn ?_))))
 refine Ws (G (R 4 rfl (NQ (Wd rfl H (fun H=>?_) (fun H=>?_)))))
 ·refine G (R 1 rfl (NQ (Wt (QT.r ?_))))
  cases H
  exact Ea rfl rfl rfl tv
 refine Wk (Qn (Ws (G (R 4 rfl (NQ (Wd rfl H (fun H=>?_) (fun H=>?_)))))))
 ·refine G (R 1 rfl (NQ (Wt (QT.r ?_))))
  cases H
  exact Ea rfl rfl rfl tv
 refine Wk (Qn (Ws (G (R 4 rfl (NQ (Wb (Wl (ι:= {x:Nat×Int //dV a0 x.1 x.2=some r}) (fun x=>[(48, .d (slT ak a0.Funcs)),(49, .d (.int .i64 (a0.Funcs.length:Int))),(50, .d (.int .i64 x.1.2))]) (fun x=>[]) (fun x=>x.1.1) ⟨(fuel,0),H⟩ (Lm p3 tv) fun x=>?_)))))))
 obtain ⟨⟨k13,s12⟩,H⟩:=x
 rcases k13 with _ | k13
 ·exact aO H
 rw [dV] at H
 refine G (R 1 rfl (NS (Wd rfl H (fun H=>?_) (fun H=>?_))))
 ·refine Wk (Qn (Ws (Wb (G ?_))))
  obtain ⟨g15,H⟩:=ay H
  refine RS 2 rfl ⟨⟨(al g15).1,(al g15).2,rfl⟩,tv⟩ (Wa 109 tk rfl rfl rfl (Ef 0 rfl (N (R 1 rfl ?_))))
  obtain ⟨x16,hx16,H⟩:=an H
  refine Cl [] (qV _ hx16) qW rfl tv rfl (R 1 rfl (N (R 2 rfl (NQ (Wd rfl H (fun H=>?_) (fun H=>?_))))))
  ·refine G (R 2 rfl (NQ (Wt (QB.r (QT.r (QT.r (QB.r (QT.r ?_))))))))
   cases H
   exact Ea rfl rfl rfl tv
  refine Wk (Qb (Qn ?_))
  exact Wg (R 2 rfl (NQ (⟨⟨(k13,IntKind.i64.wrap (s12+1)),H⟩,Z,Lm p3 tv⟩)))
 refine WC.exit (Qx (Qx (Qh (Qn ?_))))
 refine G (R 1 rfl (NQ (Wt ?_)))
 cases H
 exact Ea rfl rfl rfl tv
theorem lH:aF Tryz.prog 49 Tryz.f49:=⟨Tryz.func49,rfl,by kernel_rfl⟩
theorem pk (a0:ah) (a1:aq) (a2:ar) (a3:Int) (a4:Int) {r:Int} (H:fJ a0 a1 a2 a3 a4=some r):LJ.Spec Tryz.prog 89 [.d (.agg [slT ai a0.Decls,slT aa a0.Waits,slT ak a0.Funcs]), .d (.agg [.int .i64 a1.Args, .int .i64 a1.Locals,slT aE a1.Code]), .d (.agg [.int .i64 a2.Op, .int .i64 a2.A, .int .i64 a2.B]), .d (.int .u8 a3), .d (.int .i64 a4)] [] (.d (.int .i64 r)) []:=by
 refine LJ.Spec.code Tryz.func89 rfl 65 rfl rfl [] rfl fun w0 F0 S0 B0=>?_
 unfold fJ at H
 refine G (Ef 105 rfl (Ef 106 rfl (Ef 107 rfl (R 1 rfl (N (R 1 rfl (NS (G (R 1 rfl (NQ (Wb (Ws (G (R 2 rfl (NQ (Wc rfl (fun h1=>?_) (fun h1=>?_)))))))))))))))))
 ·replace H:=of_t H h1
  refine WC.known (g:=19) true rfl h1 (Wk (Qn (Wc rfl (fun h=>?_) (fun h=>absurd h (by decide)))))
  refine Wk (Qb (Qn ?_))
  refine Ws (G (R 2 rfl (NQ (Wc rfl (fun h=>absurd h (by decide)) (fun h=>?_)))))
  refine Wk (Qn (G (R 1 rfl (NQ (Wt ?_)))))
  cases H
  exact Ea rfl rfl rfl tv
 replace H:=of_f H h1
 refine Wg (R 2 rfl (NQ (Wd rfl H (fun H=>?_) (fun H=>?_))))
 ·refine Wk (Qb (Qn ?_))
  refine Ws (G (R 2 rfl (NQ (Wc rfl (fun h=>absurd h (by decide)) (fun h=>?_)))))
  refine Wk (Qn (G (R 1 rfl (NQ (Wt ?_)))))
  cases H
  exact Ea rfl rfl rfl tv
 refine G (R 2 rfl (NQ (Wd rfl H (fun H=>?_) (fun H=>?_))))
 ·refine Wg (R 5 rfl (Wn (Qb (Qn ?_))))
  refine Ws (G (R 2 rfl (NQ (Wd rfl H (fun H=>?_) (fun H=>?_)))))
  ·refine G (R 1 rfl (NQ (Wt (QT.r ?_))))
   cases H
   exact Ea rfl rfl rfl tv
  refine Wk (Qn (G (R 1 rfl (NQ (Wt ?_)))))
  cases H
  exact Ea rfl rfl rfl tv
 refine G (R 2 rfl (NQ (Wd rfl H (fun H=>?_) (fun H=>?_))))
 ·refine Wg (R 6 rfl (Wn (Qb (Qn ?_))))
  refine Ws (G (R 2 rfl (NQ (Wd rfl H (fun H=>?_) (fun H=>?_)))))
  ·refine G (R 1 rfl (NQ (Wt (QT.r ?_))))
   cases H
   exact Ea rfl rfl rfl tv
  refine Wk (Qn (G (R 1 rfl (NQ (Wt ?_)))))
  cases H
  exact Ea rfl rfl rfl tv
 refine G (R 2 rfl (NQ (Wd rfl H (fun H=>?_) (fun H=>?_))))
 ·refine Wg (R 6 rfl (Wx 4 5 true tk sg0 rfl rfl (fun _=>tv) ?_))
  obtain ⟨g8,H⟩:=e9 H
  refine Wx 7 9 false tk sg0 rfl rfl (fun hb=>⟨⟨(al (g8 hb)).1,(al (g8 hb)).2,rfl⟩,tv⟩) (Wx 1 5 true tk sg0 rfl rfl (fun hb=>⟨by first | exact id | exact ⟨hb,fun h=>by rw [hb,h];rfl⟩ | exact ⟨hb,id⟩ | exact fun h=>by rw [hb,h];rfl | exact fun h=>by rw [h];rfl | simp_all,tv⟩) (RS 2 rfl ⟨by first | exact id | exact fun h=>by rw [h];rfl | simp_all,tv⟩ (Wn (Qb (Qn ?_)))))
  refine Ws (G (R 2 rfl (NQ (Wd rfl H (fun H=>?_) (fun H=>?_)))))
  ·refine G (R 1 rfl (NQ (Wt (QT.r ?_))))
   cases H
   exact Ea rfl rfl rfl tv
  refine Wk (Qn (G (R 1 rfl (NQ (Wt ?_)))))
  cases H
  exact Ea rfl rfl rfl tv
 refine G (R 2 rfl (NQ (Wd rfl H (fun H=>?_) (fun H=>?_))))
 ·refine Wg (R 6 rfl (Wn (Qb (Qn ?_))))
  refine Ws (G (R 2 rfl (NQ (Wd rfl H (fun H=>?_) (fun H=>?_)))))
  ·refine G (R 1 rfl (NQ (Wt (QT.r ?_))))
   cases H
   exact Ea rfl rfl rfl tv
  refine Wk (Qn (G (R 1 rfl (NQ (Wt ?_)))))
  cases H
  exact Ea rfl rfl rfl tv
 refine G (R 4 rfl ?_)
 obtain ⟨x12,hx12,H⟩:=an H
 refine Cl [] (gi _ _ _ hx12) gj rfl tv rfl (R 1 rfl (NQ (Wd rfl H (fun H=>?_) (fun H=>?_))))
 ·refine G (R 1 rfl (NQ (Wt (QB.r (QT.r ?_)))))
  cases H
  exact Ea rfl rfl rfl tv
 refine Wk (Qb (Qn ?_))
 refine Ws (G (R 2 rfl (NQ (Wc rfl (fun h=>absurd h (by decide)) (fun h=>?_)))))
 refine Wk (Qn (G (R 1 rfl (NQ (Wt ?_)))))
 cases H
 exact Ea rfl rfl rfl tv
theorem pn:aF Tryz.prog 89 Tryz.f89:=⟨Tryz.func89,rfl,by kernel_rfl⟩
theorem nU (a0:aH) (a1:Int) (a2:Int) {r:aH} (H:bc a0 a1 a2=some r):LJ.Spec Tryz.prog 134 [.ptr 0 0, .d (.int .i64 a1), .d (.int .i64 a2)] [(0, .box 191 [.d (slT ai a0.p.Decls), .d (slT aa a0.p.Waits), .d (slT ak a0.p.Funcs), .d (slT aE a0.code), .own 1, .own 2, .d (.int .i64 a0.at_), .d (.int .i64 a0.err)]),(1, .row 3 1 (a0.depth.map aA)),(2, .row 4 1 (a0.next.map bw))] (.tup []) [(1, .row 3 1 (r.depth.map aA)),(2, .row 4 1 (r.next.map bw)),(0, .box 191 [.d (slT ai r.p.Decls), .d (slT aa r.p.Waits), .d (slT ak r.p.Funcs), .d (slT aE r.code), .own 1, .own 2, .d (.int .i64 r.at_), .d (.int .i64 r.err)])]:=by
 refine LJ.Spec.code Tryz.func134 rfl 27 rfl rfl [0] rfl fun w0 F0 S0 B0=>?_
 unfold bc at H
 refine G (R 6 rfl (Wx 6 5 false tk sg0 rfl rfl (fun _=>tv) (RS 1 rfl ⟨by first | exact id | exact fun h=>by rw [h];rfl | simp_all,tv⟩ (NQ (Wd rfl H (fun H=>?_) (fun H=>?_))))))
 ·refine Wg (R 6 rfl (Ef 0 rfl (R 2 rfl (Ef 0 rfl (Wn ?_)))))
  cases H
  exact Ends.auton rfl rfl rfl p3
 refine Wk ?_
 cases H
 exact Ends.auton rfl rfl rfl p3
theorem dc (n0 n1 n2:Nat) (hn:cJ [n0,n1,n2]=true) (a0:aH) (a1:Int) (a2:Int) {r:aH} (H:bc a0 a1 a2=some r):LJ.Spec Tryz.prog 134 [.ptr n0 0, .d (.int .i64 a1), .d (.int .i64 a2)] [(n0, .box 191 [.d (slT ai a0.p.Decls), .d (slT aa a0.p.Waits), .d (slT ak a0.p.Funcs), .d (slT aE a0.code), .own n1, .own n2, .d (.int .i64 a0.at_), .d (.int .i64 a0.err)]),(n1, .row 3 1 (a0.depth.map aA)),(n2, .row 4 1 (a0.next.map bw))] (.tup []) [(n1, .row 3 1 (r.depth.map aA)),(n2, .row 4 1 (r.next.map bw)),(n0, .box 191 [.d (slT ai r.p.Decls), .d (slT aa r.p.Waits), .d (slT ak r.p.Funcs), .d (slT aE r.code), .own n1, .own n2, .d (.int .i64 r.at_), .d (.int .i64 r.err)])]:=
 Spec.names [n0,n1,n2] hn rfl rfl (nU a0 a1 a2 H)
theorem de:aF Tryz.prog 134 Tryz.f134:=⟨Tryz.func134,rfl,by kernel_rfl⟩
theorem nV (a0:aH) (a1:Int) (a2:Int) (a3:Int) {r:Bool×aH} (H:aV a0 a1 a2 a3=some r):LJ.Spec Tryz.prog 114 [.ptr 0 0, .d (.int .i64 a1), .d (.int .i64 a2), .d (.int .i64 a3)] [(0, .box 191 [.d (slT ai a0.p.Decls), .d (slT aa a0.p.Waits), .d (slT ak a0.p.Funcs), .d (slT aE a0.code), .own 1, .own 2, .d (.int .i64 a0.at_), .d (.int .i64 a0.err)]),(1, .row 3 1 (a0.depth.map aA)),(2, .row 4 1 (a0.next.map bw))] (.d (.bool r.1)) [(1, .row 3 1 (r.2.depth.map aA)),(2, .row 4 1 (r.2.next.map bw)),(0, .box 191 [.d (slT ai r.2.p.Decls), .d (slT aa r.2.p.Waits), .d (slT ak r.2.p.Funcs), .d (slT aE r.2.code), .own 1, .own 2, .d (.int .i64 r.2.at_), .d (.int .i64 r.2.err)])]:=by
 refine LJ.Spec.code Tryz.func114 rfl 55 rfl rfl [0] rfl fun w0 F0 S0 B0=>?_
 unfold aV at H
 refine G (R 1 rfl (NS (Wb (G (R 8 rfl (NQ (Wd rfl H (fun H=>?_) (fun H=>?_))))))))
 ·refine G (R 2 rfl ?_)
  obtain ⟨x2,hx2,H⟩:=an H
  refine Cl [1,2] (dc 0 1 2 rfl _ _ _ hx2) de rfl p3 rfl (N (R 1 rfl (NQ (Wt (QB.r (QT.r ?_))))))
  cases H
  exact Ea rfl rfl rfl p3
 refine G (R 5 rfl ?_)
 obtain ⟨g3,H⟩:=ay H
 refine WL.yv (LJ.Y.idxRel aA a0.depth a2 tk rfl rfl rfl rfl rfl (al g3)) rfl rfl rfl (WL.yv (LJ.Y.loadRel aA a0.depth a2 0 rfl rfl (fun _=>rfl) rfl (by kernel_rfl) rfl (by first | exact al g3 | (have:=al g3;simpa only [List.length_set,List.length_map] using this))) rfl rfl rfl (R 2 rfl (NQ (Wd rfl H (fun H=>?_) (fun H=>?_)))))
 ·refine G (R 6 rfl ?_)
  obtain ⟨g5,H⟩:=ay H
  refine WL.yv (LJ.Y.idxRel aA a0.depth a2 tk rfl rfl rfl rfl rfl (al g5)) rfl rfl rfl (WL.storeRel aA a0.depth a2 0 a3 (.int .i64 a3) rfl rfl rfl rfl (fun _=>rfl) rfl (by kernel_rfl) rfl rfl (by first | exact al g5 | (have:=al g5;simpa only [List.length_set,List.length_map] using this)) rfl rfl rfl rfl ?_)
  refine NQ (Wg (R 5 rfl ?_))
  obtain ⟨g6,H⟩:=ay H
  refine WL.yv (LJ.Y.idxRel bw a0.next a2 tk rfl rfl rfl rfl rfl (al g6)) rfl rfl rfl (WL.storeRel bw a0.next a2 0 true (.bool true) rfl rfl rfl rfl (fun _=>rfl) rfl (by kernel_rfl) rfl rfl (by first | exact al g6 | (have:=al g6;simpa only [List.length_set,List.length_map] using this)) rfl rfl rfl rfl ?_)
  refine Wn (Qb (Qn ?_))
  refine G (R 1 rfl (NQ (Wt ?_)))
  cases H
  exact Ea rfl rfl rfl p3
 refine G (R 5 rfl ?_)
 obtain ⟨g7,H⟩:=ay H
 refine WL.yv (LJ.Y.idxRel aA a0.depth a2 tk rfl rfl rfl rfl rfl (al g7)) rfl rfl rfl (WL.yv (LJ.Y.loadRel aA a0.depth a2 0 rfl rfl (fun _=>rfl) rfl (by kernel_rfl) rfl (by first | exact al g7 | (have:=al g7;simpa only [List.length_set,List.length_map] using this))) rfl rfl rfl (R 3 rfl (NQ (Wd rfl H (fun H=>?_) (fun H=>?_)))))
 ·refine G (R 2 rfl ?_)
  obtain ⟨x9,hx9,H⟩:=an H
  refine Cl [1,2] (dc 0 1 2 rfl _ _ _ hx9) de rfl p3 rfl (N (R 1 rfl (NQ (Wt (QB.r (QT.r ?_))))))
  cases H
  exact Ea rfl rfl rfl p3
 refine Wk (Qb (Qn ?_))
 refine G (R 1 rfl (NQ (Wt ?_)))
 cases H
 exact Ea rfl rfl rfl p3
theorem cH (n0 n1 n2:Nat) (hn:cJ [n0,n1,n2]=true) (a0:aH) (a1:Int) (a2:Int) (a3:Int) {r:Bool×aH} (H:aV a0 a1 a2 a3=some r):LJ.Spec Tryz.prog 114 [.ptr n0 0, .d (.int .i64 a1), .d (.int .i64 a2), .d (.int .i64 a3)] [(n0, .box 191 [.d (slT ai a0.p.Decls), .d (slT aa a0.p.Waits), .d (slT ak a0.p.Funcs), .d (slT aE a0.code), .own n1, .own n2, .d (.int .i64 a0.at_), .d (.int .i64 a0.err)]),(n1, .row 3 1 (a0.depth.map aA)),(n2, .row 4 1 (a0.next.map bw))] (.d (.bool r.1)) [(n1, .row 3 1 (r.2.depth.map aA)),(n2, .row 4 1 (r.2.next.map bw)),(n0, .box 191 [.d (slT ai r.2.p.Decls), .d (slT aa r.2.p.Waits), .d (slT ak r.2.p.Funcs), .d (slT aE r.2.code), .own n1, .own n2, .d (.int .i64 r.2.at_), .d (.int .i64 r.2.err)])]:=
 Spec.names [n0,n1,n2] hn rfl rfl (nV a0 a1 a2 a3 H)
theorem cI:aF Tryz.prog 114 Tryz.f114:=⟨Tryz.func114,rfl,by kernel_rfl⟩
theorem ju (a0:List Bool) (a1:Bool) {r:Int} (H:cq a0 a1=some r):LJ.Spec Tryz.prog 135 [.d (slT bw a0), .d (.bool a1)] [] (.d (.int .i64 r)) []:=by
 refine LJ.Spec.code Tryz.func135 rfl 19 rfl rfl [] rfl fun w0 F0 S0 B0=>?_
 unfold cq at H
 refine G (R 1 rfl (NS (G (R 3 rfl (NQ (Wb (Wl (ι:= {x:Nat×Int //aW a0 a1 x.1 x.2=some r}) (fun x=>[(0, .d (slT bw a0)),(1, .d (.bool a1)),(7, .d (.int .i64 (a0.length:Int))),(8, .d (.int .i64 x.1.2))]) (fun x=>[]) (fun x=>x.1.1) ⟨(fuel,0),H⟩ (Lm p4 tv) fun x=>?_)))))))
 obtain ⟨⟨k2,s1⟩,H⟩:=x
 rcases k2 with _ | k2
 ·exact aO H
 rw [aW] at H
 refine G (R 1 rfl (NS (Wd rfl H (fun H=>?_) (fun H=>?_))))
 ·refine Wk (Qn (Ws (Wb (G (R 2 rfl (NS (Wg ?_)))))))
  obtain ⟨g4,H⟩:=ay H
  refine RS 6 rfl ⟨⟨(al g4).1,(al g4).2,rfl⟩,tv⟩ (NQ (Wd rfl H (fun H=>?_) (fun H=>?_)))
  ·refine G (R 2 rfl (NQ (Wt (QB.r (QT.r (QT.r (QB.r (QT.r ?_))))))))
   cases H
   exact Ea rfl rfl rfl tv
  refine Wk (Qb (Qn ?_))
  exact Wg (R 2 rfl (NQ (⟨⟨(k2,IntKind.i64.wrap (s1+1)),H⟩,Z,Lm p4 tv⟩)))
 refine WC.exit (Qx (Qx (Qh (Qn ?_))))
 refine G (R 1 rfl (NQ (Wt ?_)))
 cases H
 exact Ea rfl rfl rfl tv
theorem jv:aF Tryz.prog 135 Tryz.f135:=⟨Tryz.func135,rfl,by kernel_rfl⟩
theorem nW (a0:aH) {r:Int} (H:bS a0=some r):LJ.Spec Tryz.prog 115 [.ptr 0 0] [(0, .box 191 [.d (slT ai a0.p.Decls), .d (slT aa a0.p.Waits), .d (slT ak a0.p.Funcs), .d (slT aE a0.code), .own 1, .own 2, .d (.int .i64 a0.at_), .d (.int .i64 a0.err)]),(1, .row 3 1 (a0.depth.map aA)),(2, .row 4 1 (a0.next.map bw))] (.d (.int .i64 r)) [(1, .row 3 1 (a0.depth.map aA)),(2, .row 4 1 (a0.next.map bw)),(0, .box 191 [.d (slT ai a0.p.Decls), .d (slT aa a0.p.Waits), .d (slT ak a0.p.Funcs), .d (slT aE a0.code), .own 1, .own 2, .d (.int .i64 a0.at_), .d (.int .i64 a0.err)])]:=by
 refine LJ.Spec.code Tryz.func115 rfl 8 rfl rfl [0] rfl fun w0 F0 S0 B0=>?_
 unfold bS at H
 refine G (R 1 rfl (N (R 4 rfl ?_)))
 obtain ⟨x1,hx1,H⟩:=an H
 refine WL.callB (ju _ _ hx1) jv rfl (.own bw a0.next rfl rfl (.op rfl .nil)) rfl rfl rfl rfl (R 1 rfl (NQ (Wt ?_)))
 cases H
 exact Ea rfl rfl rfl p3
theorem jR (n0 n1 n2:Nat) (hn:cJ [n0,n1,n2]=true) (a0:aH) {r:Int} (H:bS a0=some r):LJ.Spec Tryz.prog 115 [.ptr n0 0] [(n0, .box 191 [.d (slT ai a0.p.Decls), .d (slT aa a0.p.Waits), .d (slT ak a0.p.Funcs), .d (slT aE a0.code), .own n1, .own n2, .d (.int .i64 a0.at_), .d (.int .i64 a0.err)]),(n1, .row 3 1 (a0.depth.map aA)),(n2, .row 4 1 (a0.next.map bw))] (.d (.int .i64 r)) [(n1, .row 3 1 (a0.depth.map aA)),(n2, .row 4 1 (a0.next.map bw)),(n0, .box 191 [.d (slT ai a0.p.Decls), .d (slT aa a0.p.Waits), .d (slT ak a0.p.Funcs), .d (slT aE a0.code), .own n1, .own n2, .d (.int .i64 a0.at_), .d (.int .i64 a0.err)])]:=
 Spec.names [n0,n1,n2] hn rfl rfl (nW a0 H)
theorem jS:aF Tryz.prog 115 Tryz.f115:=⟨Tryz.func115,rfl,by kernel_rfl⟩
theorem sj (a0:Int) {r:Int} (H:jJ a0=some r):LJ.Spec Tryz.prog 149 [.d (.int .i64 a0)] [] (.d (.int .i64 r)) []:=by
 refine LJ.Spec.code Tryz.func149 rfl 39 rfl rfl [] rfl fun w0 F0 S0 B0=>?_
 unfold jJ at H
 refine G (R 1 rfl (NS (G (R 1 rfl (NQ (Wb (Ws (G (R 2 rfl (NQ (Wc rfl (fun h1=>?_) (fun h1=>?_))))))))))))
 ·replace H:=of_t H h1
  refine WC.known (g:=4) true rfl h1 (Wk (Qn (Wc rfl (fun h=>?_) (fun h=>absurd h (by decide)))))
  refine G (R 1 rfl (NQ (Wt (QB.r (QT.r ?_)))))
  cases H
  exact Ea rfl rfl rfl tv
 replace H:=of_f H h1
 refine G (R 2 rfl (NQ (Wc rfl (fun h2=>?_) (fun h2=>?_))))
 ·replace H:=of_t H h2
  refine WC.known (g:=4) true rfl h2 (Wk (Qn (Wc rfl (fun h=>?_) (fun h=>absurd h (by decide)))))
  refine G (R 1 rfl (NQ (Wt (QB.r (QT.r ?_)))))
  cases H
  exact Ea rfl rfl rfl tv
 replace H:=of_f H h2
 refine G (R 2 rfl (NQ (Wc rfl (fun h3=>?_) (fun h3=>?_))))
 ·replace H:=of_t H h3
  refine WC.known (g:=4) true rfl h3 (Wk (Qn (Wc rfl (fun h=>?_) (fun h=>absurd h (by decide)))))
  refine G (R 1 rfl (NQ (Wt (QB.r (QT.r ?_)))))
  cases H
  exact Ea rfl rfl rfl tv
 replace H:=of_f H h3
 refine Wg (R 2 rfl (NQ (Wd rfl H (fun H=>?_) (fun H=>?_))))
 ·refine G (R 1 rfl (NQ (Wt (QB.r (QT.r ?_)))))
  cases H
  exact Ea rfl rfl rfl tv
 refine Ws (G (R 2 rfl (NQ (Wc rfl (fun h5=>?_) (fun h5=>?_)))))
 ·replace H:=of_t H h5
  refine WC.known (g:=9) true rfl h5 (Wk (Qn (Wc rfl (fun h=>?_) (fun h=>absurd h (by decide)))))
  refine G (R 1 rfl (NQ (Wt (QB.r (QT.r ?_)))))
  cases H
  exact Ea rfl rfl rfl tv
 replace H:=of_f H h5
 refine Wg (R 2 rfl (NQ (Wd rfl H (fun H=>?_) (fun H=>?_))))
 ·refine G (R 1 rfl (NQ (Wt (QB.r (QT.r ?_)))))
  cases H
  exact Ea rfl rfl rfl tv
 refine G (R 2 rfl (NQ (Wd rfl H (fun H=>?_) (fun H=>?_))))
 ·refine G (R 1 rfl (NQ (Wt (QB.r (QT.r ?_)))))
  cases H
  exact Ea rfl rfl rfl tv
 refine G (R 2 rfl (NQ (Wd rfl H (fun H=>?_) (fun H=>?_))))
 ·refine G (R 1 rfl (NQ (Wt (QB.r (QT.r ?_)))))
  cases H
  exact Ea rfl rfl rfl tv
 refine Ws (G (R 2 rfl (NQ (Wc rfl (fun h9=>?_) (fun h9=>?_)))))
 ·replace H:=of_t H h9
  refine WC.known (g:=16) true rfl h9 (Wk (Qn (Wc rfl (fun h=>?_) (fun h=>absurd h (by decide)))))
  refine G (R 1 rfl (NQ (Wt (QB.r (QT.r ?_)))))
  cases H
  exact Ea rfl rfl rfl tv
 replace H:=of_f H h9
 refine Wg (R 2 rfl (NQ (Wd rfl H (fun H=>?_) (fun H=>?_))))
 ·refine G (R 1 rfl (NQ (Wt (QB.r (QT.r ?_)))))
  cases H
  exact Ea rfl rfl rfl tv
 refine Ws (G (R 2 rfl (NQ (Wc rfl (fun h11=>?_) (fun h11=>?_)))))
 ·replace H:=of_t H h11
  refine WC.known (g:=19) true rfl h11 (Wk (Qn (Wc rfl (fun h=>?_) (fun h=>absurd h (by decide)))))
  refine G (R 1 rfl (NQ (Wt (QB.r (QT.r ?_)))))
  cases H
  exact Ea rfl rfl rfl tv
 replace H:=of_f H h11
 refine G (R 2 rfl (NQ (Wc rfl (fun h12=>?_) (fun h12=>?_))))
 ·replace H:=of_t H h12
  refine WC.known (g:=19) true rfl h12 (Wk (Qn (Wc rfl (fun h=>?_) (fun h=>absurd h (by decide)))))
  refine G (R 1 rfl (NQ (Wt (QB.r (QT.r ?_)))))
  cases H
  exact Ea rfl rfl rfl tv
 replace H:=of_f H h12
 refine G (R 2 rfl (NQ (Wc rfl (fun h13=>?_) (fun h13=>?_))))
 ·replace H:=of_t H h13
  refine WC.known (g:=19) true rfl h13 (Wk (Qn (Wc rfl (fun h=>?_) (fun h=>absurd h (by decide)))))
  refine G (R 1 rfl (NQ (Wt (QB.r (QT.r ?_)))))
  cases H
  exact Ea rfl rfl rfl tv
 replace H:=of_f H h13
 refine G (R 2 rfl (NQ (Wc rfl (fun h14=>?_) (fun h14=>?_))))
 ·replace H:=of_t H h14
  refine WC.known (g:=19) true rfl h14 (Wk (Qn (Wc rfl (fun h=>?_) (fun h=>absurd h (by decide)))))
  refine G (R 1 rfl (NQ (Wt (QB.r (QT.r ?_)))))
  cases H
  exact Ea rfl rfl rfl tv
 replace H:=of_f H h14
 refine G (R 2 rfl (NQ (Wc rfl (fun h15=>?_) (fun h15=>?_))))
 ·replace H:=of_t H h15
  refine WC.known (g:=19) true rfl h15 (Wk (Qn (Wc rfl (fun h=>?_) (fun h=>absurd h (by decide)))))
  refine G (R 1 rfl (NQ (Wt (QB.r (QT.r ?_)))))
  cases H
  exact Ea rfl rfl rfl tv
 replace H:=of_f H h15
 refine G (R 2 rfl (NQ (Wc rfl (fun h16=>?_) (fun h16=>?_))))
 ·replace H:=of_t H h16
  refine WC.known (g:=19) true rfl h16 (Wk (Qn (Wc rfl (fun h=>?_) (fun h=>absurd h (by decide)))))
  refine G (R 1 rfl (NQ (Wt (QB.r (QT.r ?_)))))
  cases H
  exact Ea rfl rfl rfl tv
 replace H:=of_f H h16
 refine G (R 2 rfl (NQ (Wc rfl (fun h17=>?_) (fun h17=>?_))))
 ·replace H:=of_t H h17
  refine WC.known (g:=19) true rfl h17 (Wk (Qn (Wc rfl (fun h=>?_) (fun h=>absurd h (by decide)))))
  refine G (R 1 rfl (NQ (Wt (QB.r (QT.r ?_)))))
  cases H
  exact Ea rfl rfl rfl tv
 replace H:=of_f H h17
 refine G (R 2 rfl (NQ (Wc rfl (fun h18=>?_) (fun h18=>?_))))
 ·replace H:=of_t H h18
  refine WC.known (g:=19) true rfl h18 (Wk (Qn (Wc rfl (fun h=>?_) (fun h=>absurd h (by decide)))))
  refine G (R 1 rfl (NQ (Wt (QB.r (QT.r ?_)))))
  cases H
  exact Ea rfl rfl rfl tv
 replace H:=of_f H h18
 refine G (R 2 rfl (NQ (Wc rfl (fun h19=>?_) (fun h19=>?_))))
 ·replace H:=of_t H h19
  refine WC.known (g:=19) true rfl h19 (Wk (Qn (Wc rfl (fun h=>?_) (fun h=>absurd h (by decide)))))
  refine G (R 1 rfl (NQ (Wt (QB.r (QT.r ?_)))))
  cases H
  exact Ea rfl rfl rfl tv
 replace H:=of_f H h19
 refine G (R 2 rfl (NQ (Wc rfl (fun h20=>?_) (fun h20=>?_))))
 ·replace H:=of_t H h20
  refine WC.known (g:=19) true rfl h20 (Wk (Qn (Wc rfl (fun h=>?_) (fun h=>absurd h (by decide)))))
  refine G (R 1 rfl (NQ (Wt (QB.r (QT.r ?_)))))
  cases H
  exact Ea rfl rfl rfl tv
 replace H:=of_f H h20
 refine Wg (R 2 rfl (NQ (Wd rfl H (fun H=>?_) (fun H=>?_))))
 ·refine G (R 1 rfl (NQ (Wt (QB.r (QT.r ?_)))))
  cases H
  exact Ea rfl rfl rfl tv
 refine Wk (Qb (Qn ?_))
 refine Ws (G (R 3 rfl (Wx 2 2 true tk sg0 rfl rfl (fun _=>tv) (RS 1 rfl ⟨by first | exact id | exact fun h=>by rw [h];rfl | simp_all,tv⟩ (NQ (Wd rfl H (fun H=>?_) (fun H=>?_)))))))
 ·refine G (R 1 rfl (NQ (Wt (QT.r ?_))))
  cases H
  exact Ea rfl rfl rfl tv
 refine Wk (Qn (Ws (G (R 1 rfl ?_))))
 obtain ⟨x23,hx23,H⟩:=an H
 refine Cl [] (lV _ hx23) lW rfl tv rfl (NQ (Wd rfl H (fun H=>?_) (fun H=>?_)))
 ·refine G (R 1 rfl (NQ (Wt (QT.r ?_))))
  cases H
  exact Ea rfl rfl rfl tv
 refine Wk (Qn (G (R 1 rfl (NQ (Wt ?_)))))
 cases H
 exact Ea rfl rfl rfl tv
theorem sk:aF Tryz.prog 149 Tryz.f149:=⟨Tryz.func149,rfl,by kernel_rfl⟩
theorem iM (a0:ar) (a1:Int) {r:Int} (H:gb a0 a1=some r):LJ.Spec Tryz.prog 136 [.d (.agg [.int .i64 a0.Op, .int .i64 a0.A, .int .i64 a0.B]), .d (.int .i64 a1)] [] (.d (.int .i64 r)) []:=by
 refine LJ.Spec.code Tryz.func136 rfl 35 rfl rfl [] rfl fun w0 F0 S0 B0=>?_
 unfold gb at H
 refine G (Ef 102 rfl (R 1 rfl (N (R 1 rfl (NS (G (R 2 rfl (NQ (Wb ?_)))))))))
 obtain ⟨K1,hK1,H⟩:=db H
 refine WC.cut (fun E m=>∃ s2:Int,K1 s2=some r∧iA E m [(2, .ptr 102 0),(5, .d (.int .i64 s2))] [(102, .box 100 [.d (.int .i64 a0.Op), .d (.int .i64 a0.A), .d (.int .i64 a0.B)])]) ?_ ?_
 ·refine Wb (Ws (Wb (Ws (Wb (Ws (Ws (G (R 2 rfl (NQ (Wd rfl H (fun H=>?_) (fun H=>?_)))))))))))
  ·refine WC.exit (Qx (Qx (Qh (Qn ?_))))
   refine Ws (G (R 2 rfl (NQ (Wt (QT.r (QB.r (QT.r (QB.r (QT.r (QB.r (QT.r ?_)))))))))))
   cases H
   exact Ea rfl rfl rfl tv
  refine Wk (Qn (Ws (G (R 2 rfl (NQ (Wd rfl H (fun H=>?_) (fun H=>?_)))))))
  ·refine WC.exit (Qx (Qx (QB.miss rfl (Qx (Qh (Qn ?_))))))
   refine Wg (R 3 rfl (Wn (Qb (Qn ?_))))
   exact ⟨IntKind.i64.wrap ((0:Int)+1),H,Lw q2 p1⟩
  refine Wk (Qn (G (R 2 rfl (NQ (Wd rfl H (fun H=>?_) (fun H=>?_))))))
  ·refine WC.exit (Qx (QB.miss rfl (Qx (QB.miss rfl (Qx (Qh (Qn ?_)))))))
   exact ⟨0,H,Lw q2 p1⟩
  refine Wk (Qn (WC.exit (QB.miss rfl (Qx (QB.miss rfl (Qx (QB.miss rfl (Qx (Qh (Qn ?_))))))))))
  refine Ws (G (R 2 rfl ?_))
  obtain ⟨x6,hx6,H⟩:=an H
  refine Cl [] (sj _ hx6) sk rfl tv rfl (NQ (Wb ?_))
  obtain ⟨K7,hK7,H⟩:=db H
  refine WC.cut (fun E m=>∃ s8:Int,K7 s8=some r∧iA E m [(5, .d (.int .i64 s8))] []) ?_ ?_
  ·refine Wb (Ws (Wb (Ws (Ws (G (R 2 rfl (NQ (Wd rfl H (fun H=>?_) (fun H=>?_)))))))))
   ·refine WC.exit (Qx (Qx (Qh (Qn ?_))))
    refine Wg (R 3 rfl (Wn (Qb (Qn ?_))))
    exact ⟨IntKind.i64.wrap ((0:Int)+1),H,Lw q1 tv⟩
   refine Wk (Qn (Ws (G (R 2 rfl (NQ (Wc rfl (fun h10=>?_) (fun h10=>?_)))))))
   ·replace H:=of_t H h10
    refine WC.known (g:=26) true rfl h10 (Wk (Qn (Wc rfl (fun h=>?_) (fun h=>absurd h (by decide)))))
    refine WC.exit (Qx (QB.miss rfl (Qx (Qh (Qn ?_)))))
    exact ⟨0,H,Lw q1 tv⟩
   replace H:=of_f H h10
   refine G (R 2 rfl (NQ (Wc rfl (fun h11=>?_) (fun h11=>?_))))
   ·replace H:=of_t H h11
    refine WC.known (g:=26) true rfl h11 (Wk (Qn (Wc rfl (fun h=>?_) (fun h=>absurd h (by decide)))))
    refine WC.exit (Qx (QB.miss rfl (Qx (Qh (Qn ?_)))))
    exact ⟨0,H,Lw q1 tv⟩
   replace H:=of_f H h11
   refine Wg (R 2 rfl (NQ (Wd rfl H (fun H=>?_) (fun H=>?_))))
   ·refine WC.exit (Qx (QB.miss rfl (Qx (Qh (Qn ?_)))))
    exact ⟨0,H,Lw q1 tv⟩
   refine Wk (Qn (WC.exit (QB.miss rfl (Qx (QB.miss rfl (Qx (Qh (Qn ?_))))))))
   refine G (R 2 rfl (NQ (Wt ?_)))
   cases H
   exact Ea rfl rfl rfl tv
  ·rintro E m ⟨s8,H,hl⟩
   refine WC.lessW hl ?_
   replace H:=(hK7 _).symm.trans H
   try dsimp only at H
   refine G (R 3 rfl (NQ (WC.exit (Qh (Qn ?_)))))
   refine G (R 2 rfl (NQ (Wt ?_)))
   cases H
   exact Ea rfl rfl rfl tv
 ·rintro E m ⟨s2,H,hl⟩
  refine WC.lessW hl ?_
  replace H:=(hK1 _).symm.trans H
  try dsimp only at H
  refine Ws (G (R 5 rfl (NQ (Wt (QT.r (QB.r (QT.r ?_)))))))
  cases H
  exact Ea rfl rfl rfl tv
theorem iO:aF Tryz.prog 136 Tryz.f136:=⟨Tryz.func136,rfl,by kernel_rfl⟩
theorem qX (a0:Int) {r:Int} (H:cY a0=some r):LJ.Spec Tryz.prog 137 [.d (.int .i64 a0)] [] (.d (.int .i64 r)) []:=by
 refine LJ.Spec.code Tryz.func137 rfl 12 rfl rfl [] rfl fun w0 F0 S0 B0=>?_
 unfold cY at H
 refine G (R 1 rfl (NS (G (R 1 rfl ?_))))
 obtain ⟨x1,hx1,H⟩:=an H
 refine Cl [] (sj _ hx1) sk rfl tv rfl (NQ (Wb (Ws (G (R 2 rfl (NQ (Wc rfl (fun h2=>?_) (fun h2=>?_))))))))
 ·replace H:=of_t H h2
  refine WC.known (g:=5) true rfl h2 (Wk (Qn (Wc rfl (fun h=>?_) (fun h=>absurd h (by decide)))))
  refine G (R 1 rfl (NQ (Wt (QB.r (QT.r ?_)))))
  cases H
  exact Ea rfl rfl rfl tv
 replace H:=of_f H h2
 refine Wg (R 2 rfl (NQ (Wd rfl H (fun H=>?_) (fun H=>?_))))
 ·refine G (R 1 rfl (NQ (Wt (QB.r (QT.r ?_)))))
  cases H
  exact Ea rfl rfl rfl tv
 refine Ws (G (R 2 rfl (NQ (Wc rfl (fun h4=>?_) (fun h4=>?_)))))
 ·replace H:=of_t H h4
  refine WC.known (g:=8) true rfl h4 (Wk (Qn (Wc rfl (fun h=>?_) (fun h=>absurd h (by decide)))))
  refine G (R 1 rfl (NQ (Wt (QB.r (QT.r ?_)))))
  cases H
  exact Ea rfl rfl rfl tv
 replace H:=of_f H h4
 refine G (R 2 rfl (NQ (Wc rfl (fun h5=>?_) (fun h5=>?_))))
 ·replace H:=of_t H h5
  refine WC.known (g:=8) true rfl h5 (Wk (Qn (Wc rfl (fun h=>?_) (fun h=>absurd h (by decide)))))
  refine G (R 1 rfl (NQ (Wt (QB.r (QT.r ?_)))))
  cases H
  exact Ea rfl rfl rfl tv
 replace H:=of_f H h5
 refine Wg (R 2 rfl (NQ (Wd rfl H (fun H=>?_) (fun H=>?_))))
 ·refine G (R 1 rfl (NQ (Wt (QB.r (QT.r ?_)))))
  cases H
  exact Ea rfl rfl rfl tv
 refine Wk (Qb (Qn ?_))
 refine G (R 1 rfl (NQ (Wt ?_)))
 cases H
 exact Ea rfl rfl rfl tv
theorem qY:aF Tryz.prog 137 Tryz.f137:=⟨Tryz.func137,rfl,by kernel_rfl⟩
theorem u6 (a0:Int) {r:Bool} (H:ll a0=some r):LJ.Spec Tryz.prog 138 [.d (.int .i64 a0)] [] (.d (.bool r)) []:=by
 refine LJ.Spec.code Tryz.func138 rfl 13 rfl rfl [] rfl fun w0 F0 S0 B0=>?_
 unfold ll at H
 refine G (R 1 rfl (N (R 1 rfl ?_)))
 obtain ⟨x1,hx1,H⟩:=an H
 refine Cl [] (lV _ hx1) lW rfl tv rfl (R 1 rfl (Wx 2 2 true tk sg0 rfl rfl (fun _=>tv) (RS 2 rfl ⟨by first | exact id | exact fun h=>by rw [h];rfl | simp_all,tv⟩ (Wx 2 6 true tk sg0 rfl rfl (fun _=>tv) (RS 2 rfl ⟨by first | exact id | exact fun h=>by rw [h];rfl | simp_all,tv⟩ (NQ (Wt ?_)))))))
 cases H
 exact Ea rfl rfl rfl tv
theorem u7:aF Tryz.prog 138 Tryz.f138:=⟨Tryz.func138,rfl,by kernel_rfl⟩
theorem ot (a0:aH) (a1:Int) {r:aH} (H:cC a0 a1=some r):LJ.Spec Tryz.prog 116 [.ptr 0 0, .d (.int .i64 a1)] [(0, .box 191 [.d (slT ai a0.p.Decls), .d (slT aa a0.p.Waits), .d (slT ak a0.p.Funcs), .d (slT aE a0.code), .own 1, .own 2, .d (.int .i64 a0.at_), .d (.int .i64 a0.err)]),(1, .row 3 1 (a0.depth.map aA)),(2, .row 4 1 (a0.next.map bw))] (.tup []) [(1, .row 3 1 (r.depth.map aA)),(2, .row 4 1 (r.next.map bw)),(0, .box 191 [.d (slT ai r.p.Decls), .d (slT aa r.p.Waits), .d (slT ak r.p.Funcs), .d (slT aE r.code), .own 1, .own 2, .d (.int .i64 r.at_), .d (.int .i64 r.err)])]:=by
 refine LJ.Spec.code Tryz.func116 rfl 90 rfl rfl [0] rfl fun w0 F0 S0 B0=>?_
 unfold cC at H
 refine G ?_
 obtain ⟨g1,H⟩:=ay H
 refine RS 7 rfl ⟨⟨(al g1).1,(al g1).2,rfl⟩,tv⟩ (Wa 104 tk rfl rfl rfl (Ef 0 rfl (R 1 rfl (NS (Ws (Hp (.one 0 true (.one 1 true (.one 2 true (.one 3 true (.one 4 true (.one 5 true (.one 6 true (.one 7 true (.one 8 true (.one 9 true (.one 10 true (.one 11 true (.one 12 true (.one 13 true .done)))))))))))))) [0,104] [0,104] rfl (by kernel_rfl) rfl (by kernel_rfl) rfl rfl (fun _ h=>h) rfl rfl rfl (fun _ _ _ h=>h) fun FK NK wK K=>(Hr 4 tk rfl rfl rfl rfl tv (WH.sect 9 3 true tk rfl rfl rfl rfl (fun _=>tv) (Hr 1 tk rfl rfl rfl rfl ⟨by first | exact id | exact fun h=>by rw [h];rfl | simp_all,tv⟩ (WH.nil rfl (Qn (Wd rfl H (fun H=>?_) (fun H=>?_)))))))))))))
 ·refine Hp (.one 0 true (.one 1 true (.one 2 true (.one 3 true (.one 4 true (.one 5 true (.one 6 true (.one 7 true (.one 8 true (.one 9 true (.one 10 true .done))))))))))) [0,104] [0,104] rfl (by kernel_rfl) rfl (by kernel_rfl) rfl rfl (fun _ h=>h) rfl rfl rfl (fun _ _ _ h=>h) fun FK NK wK K=>?_
  obtain ⟨g3,H⟩:=ay H
  refine Hr 11 tk rfl rfl rfl rfl ⟨⟨(al g3).1,(al g3).2,rfl⟩,tv⟩ (WH.nil rfl (Qn (Ws ?_)))
  obtain ⟨g3_5_1,H⟩:=ay H
  obtain ⟨x3_9_1,hx3_9_1,H⟩:=an H
  refine WC.heldF [(0, .ptr 0 0),(1, .d (.int .i64 a1)),(4, .ptr 104 0),(6, .d (.int .i64 (IntKind.i64.wrap ((a0.depth.getD a1.toNat default) - x3_9_1))))] [(0, .box 191 [.d (slT ai a0.p.Decls), .d (slT aa a0.p.Waits), .d (slT ak a0.p.Funcs), .d (slT aE a0.code), .own 1, .own 2, .d (.int .i64 a0.at_), .d (.int .i64 a0.err)]),(1, .row 3 1 (a0.depth.map aA)),(2, .row 4 1 (a0.next.map bw)),(104, .box 100 [.d (.int .i64 ((a0.code.getD a1.toNat default).Op)), .d (.int .i64 ((a0.code.getD a1.toNat default).A)), .d (.int .i64 ((a0.code.getD a1.toNat default).B))])] (sT 0 (sT 1 (sT 2 (sT 4 (sT 7 (sT 8 (fk (sf 3 (fk (sf 5 (fk (sf 6 (sf 9 (sT 10 (sT 11 sd)))) (sf 9 (sf 6 (sT 10 (sT 11 sd)))))) (sf 9 (sf 5 (sf 6 (sT 10 (sT 11 sd))))))) (sf 9 (sf 3 (sf 5 (sf 6 (sT 10 (sT 11 sd))))))))))))) [0,104] [0,104] rfl (by kernel_rfl) rfl (by kernel_rfl) rfl rfl (fun _ h=>h) rfl rfl rfl (fun FK NK wK K=>?_) ?_
  ·refine Hr 6 tk rfl rfl rfl rfl tv (WH.fork ?_ ?_)
   ·refine WH.val tk rfl rfl rfl rfl rfl tv rfl rfl (WH.fork ?_ ?_)
    ·refine WH.yvs rfl (LJ.Y.idxRel aA a0.depth a1 tk rfl rfl rfl rfl rfl (al g3_5_1)) rfl rfl rfl rfl rfl (WH.fork ?_ ?_)
     ·exact WH.yvs rfl (LJ.Y.loadRel aA a0.depth a1 0 rfl rfl (fun _=>rfl) rfl (by kernel_rfl) rfl (by first | exact al g3_5_1 | (have:=al g3_5_1;simpa only [List.length_set,List.length_map] using this))) rfl rfl rfl rfl rfl (WH.call [] rfl (iM _ _ hx3_9_1) iO rfl rfl tv rfl rfl rfl rfl rfl (Hr 2 tk rfl rfl rfl rfl tv (Hn rfl (Lw q4 p4))))
     ·exact WH.call [] rfl (iM _ _ hx3_9_1) iO rfl rfl tv rfl rfl rfl rfl rfl (WH.yvs rfl (LJ.Y.loadRel aA a0.depth a1 0 rfl rfl (fun _=>rfl) rfl (by kernel_rfl) rfl (by first | exact al g3_5_1 | (have:=al g3_5_1;simpa only [List.length_set,List.length_map] using this))) rfl rfl rfl rfl rfl (Hr 2 tk rfl rfl rfl rfl tv (Hn rfl (Lw q4 p4))))
    ·exact WH.call [] rfl (iM _ _ hx3_9_1) iO rfl rfl tv rfl rfl rfl rfl rfl (WH.yvs rfl (LJ.Y.idxRel aA a0.depth a1 tk rfl rfl rfl rfl rfl (al g3_5_1)) rfl rfl rfl rfl rfl (WH.yvs rfl (LJ.Y.loadRel aA a0.depth a1 0 rfl rfl (fun _=>rfl) rfl (by kernel_rfl) rfl (by first | exact al g3_5_1 | (have:=al g3_5_1;simpa only [List.length_set,List.length_map] using this))) rfl rfl rfl rfl rfl (Hr 2 tk rfl rfl rfl rfl tv (Hn rfl (Lw q4 p4)))))
   ·exact WH.call [] rfl (iM _ _ hx3_9_1) iO rfl rfl tv rfl rfl rfl rfl rfl (WH.val tk rfl rfl rfl rfl rfl tv rfl rfl (WH.yvs rfl (LJ.Y.idxRel aA a0.depth a1 tk rfl rfl rfl rfl rfl (al g3_5_1)) rfl rfl rfl rfl rfl (WH.yvs rfl (LJ.Y.loadRel aA a0.depth a1 0 rfl rfl (fun _=>rfl) rfl (by kernel_rfl) rfl (by first | exact al g3_5_1 | (have:=al g3_5_1;simpa only [List.length_set,List.length_map] using this))) rfl rfl rfl rfl rfl (Hr 2 tk rfl rfl rfl rfl tv (Hn rfl (Lw q4 p4))))))
  ·refine Qn (Ws (G (R 2 rfl (NQ (Wd rfl H (fun H=>?_) (fun H=>?_))))))
   ·refine G (R 2 rfl ?_)
    obtain ⟨x5,hx5,H⟩:=an H
    refine Cl [1,2] (dc 0 1 2 rfl _ _ _ hx5) de rfl p3 rfl (NQ (Wt (QT.r ?_)))
    cases H
    exact Ea rfl rfl rfl p3
   refine Wk (Qn (Ws (G (R 3 rfl ?_))))
   obtain ⟨x6,hx6,H⟩:=an H
   refine Cl [] (qX _ hx6) qY rfl tv rfl (R 2 rfl (N (R 2 rfl (NQ (Wd rfl H (fun H=>?_) (fun H=>?_))))))
   ·refine G (R 2 rfl ?_)
    obtain ⟨x8,hx8,H⟩:=an H
    refine Cl [1,2] (dc 0 1 2 rfl _ _ _ hx8) de rfl p3 rfl (NQ (Wt (QT.r ?_)))
    cases H
    exact Ea rfl rfl rfl p3
   refine Wk (Qn (Ws (G (R 2 rfl ?_))))
   obtain ⟨x9,hx9,H⟩:=an H
   refine Cl [] (u6 _ hx9) u7 rfl tv rfl (R 1 rfl (WL.split (g:=67) rfl (fun h10=>?_) (fun h10=>?_)))
   ·replace H:=of_t H h10
    refine WL.grun 5 3 true 67 tk sg0 rfl rfl rfl rfl tv ?_
    obtain ⟨x11,hx11,H⟩:=an H
    refine WL.gcall [1,2] (cH 0 1 2 rfl _ _ _ _ hx11) cI rfl rfl p3 rfl rfl rfl rfl rfl rfl (WL.grun 1 3 true 67 tk sg0 rfl rfl rfl rfl tv (WL.pickT rfl rfl rfl rfl rfl rfl (NQ (Wd rfl H (fun H=>?_) (fun H=>?_)))))
    ·refine Wt (QT.r ?_)
     cases H
     exact Ea rfl rfl rfl p3
    refine Wk (Qn (G (R 4 rfl (Wx 3 3 false tk sg0 rfl rfl (fun _=>tv) (RS 1 rfl ⟨by first | exact id | exact fun h=>by rw [h];rfl | simp_all,tv⟩ (NQ (Wd rfl H (fun H=>?_) (fun H=>?_))))))))
    ·refine Wg (R 5 rfl ?_)
     obtain ⟨x14,hx14,H⟩:=an H
     refine Cl [1,2] (cH 0 1 2 rfl _ _ _ _ hx14) cI rfl p3 rfl (Wn ?_)
     cases H
     exact Ends.auton rfl rfl rfl p3
    refine Wk ?_
    cases H
    exact Ends.auton rfl rfl rfl p3
   ·replace H:=of_f H h10
    refine WL.gskips 7 3 true 67 rfl rfl rfl rfl (WL.pickF rfl rfl rfl rfl rfl rfl (NQ (Wc rfl (fun h=>absurd h (by decide)) (fun h=>?_))))
    refine Wk (Qn (G (R 4 rfl (Wx 3 3 false tk sg0 rfl rfl (fun _=>tv) (RS 1 rfl ⟨by first | exact id | exact fun h=>by rw [h];rfl | simp_all,tv⟩ (NQ (Wd rfl H (fun H=>?_) (fun H=>?_))))))))
    ·refine Wg (R 5 rfl ?_)
     obtain ⟨x16,hx16,H⟩:=an H
     refine Cl [1,2] (cH 0 1 2 rfl _ _ _ _ hx16) cI rfl p3 rfl (Wn ?_)
     cases H
     exact Ends.auton rfl rfl rfl p3
    refine Wk ?_
    cases H
    exact Ends.auton rfl rfl rfl p3
 refine Wk (Qn (Ws ?_))
 obtain ⟨g3_5_1,H⟩:=ay H
 obtain ⟨x3_9_1,hx3_9_1,H⟩:=an H
 refine WC.heldF [(0, .ptr 0 0),(1, .d (.int .i64 a1)),(4, .ptr 104 0),(6, .d (.int .i64 (IntKind.i64.wrap ((a0.depth.getD a1.toNat default) - x3_9_1))))] [(0, .box 191 [.d (slT ai a0.p.Decls), .d (slT aa a0.p.Waits), .d (slT ak a0.p.Funcs), .d (slT aE a0.code), .own 1, .own 2, .d (.int .i64 a0.at_), .d (.int .i64 a0.err)]),(1, .row 3 1 (a0.depth.map aA)),(2, .row 4 1 (a0.next.map bw)),(104, .box 100 [.d (.int .i64 ((a0.code.getD a1.toNat default).Op)), .d (.int .i64 ((a0.code.getD a1.toNat default).A)), .d (.int .i64 ((a0.code.getD a1.toNat default).B))])] (sT 0 (sT 1 (sT 2 (sT 4 (sT 7 (sT 8 (fk (sf 3 (fk (sf 5 (fk (sf 6 (sf 9 (sT 10 (sT 11 sd)))) (sf 9 (sf 6 (sT 10 (sT 11 sd)))))) (sf 9 (sf 5 (sf 6 (sT 10 (sT 11 sd))))))) (sf 9 (sf 3 (sf 5 (sf 6 (sT 10 (sT 11 sd))))))))))))) [0,104] [0,104] rfl (by kernel_rfl) rfl (by kernel_rfl) rfl rfl (fun _ h=>h) rfl rfl rfl (fun FK NK wK K=>?_) ?_
 ·refine Hr 6 tk rfl rfl rfl rfl tv (WH.fork ?_ ?_)
  ·refine WH.val tk rfl rfl rfl rfl rfl tv rfl rfl (WH.fork ?_ ?_)
   ·refine WH.yvs rfl (LJ.Y.idxRel aA a0.depth a1 tk rfl rfl rfl rfl rfl (al g3_5_1)) rfl rfl rfl rfl rfl (WH.fork ?_ ?_)
    ·exact WH.yvs rfl (LJ.Y.loadRel aA a0.depth a1 0 rfl rfl (fun _=>rfl) rfl (by kernel_rfl) rfl (by first | exact al g3_5_1 | (have:=al g3_5_1;simpa only [List.length_set,List.length_map] using this))) rfl rfl rfl rfl rfl (WH.call [] rfl (iM _ _ hx3_9_1) iO rfl rfl tv rfl rfl rfl rfl rfl (Hr 2 tk rfl rfl rfl rfl tv (Hn rfl (Lw q4 p4))))
    ·exact WH.call [] rfl (iM _ _ hx3_9_1) iO rfl rfl tv rfl rfl rfl rfl rfl (WH.yvs rfl (LJ.Y.loadRel aA a0.depth a1 0 rfl rfl (fun _=>rfl) rfl (by kernel_rfl) rfl (by first | exact al g3_5_1 | (have:=al g3_5_1;simpa only [List.length_set,List.length_map] using this))) rfl rfl rfl rfl rfl (Hr 2 tk rfl rfl rfl rfl tv (Hn rfl (Lw q4 p4))))
   ·exact WH.call [] rfl (iM _ _ hx3_9_1) iO rfl rfl tv rfl rfl rfl rfl rfl (WH.yvs rfl (LJ.Y.idxRel aA a0.depth a1 tk rfl rfl rfl rfl rfl (al g3_5_1)) rfl rfl rfl rfl rfl (WH.yvs rfl (LJ.Y.loadRel aA a0.depth a1 0 rfl rfl (fun _=>rfl) rfl (by kernel_rfl) rfl (by first | exact al g3_5_1 | (have:=al g3_5_1;simpa only [List.length_set,List.length_map] using this))) rfl rfl rfl rfl rfl (Hr 2 tk rfl rfl rfl rfl tv (Hn rfl (Lw q4 p4)))))
  ·exact WH.call [] rfl (iM _ _ hx3_9_1) iO rfl rfl tv rfl rfl rfl rfl rfl (WH.val tk rfl rfl rfl rfl rfl tv rfl rfl (WH.yvs rfl (LJ.Y.idxRel aA a0.depth a1 tk rfl rfl rfl rfl rfl (al g3_5_1)) rfl rfl rfl rfl rfl (WH.yvs rfl (LJ.Y.loadRel aA a0.depth a1 0 rfl rfl (fun _=>rfl) rfl (by kernel_rfl) rfl (by first | exact al g3_5_1 | (have:=al g3_5_1;simpa only [List.length_set,List.length_map] using this))) rfl rfl rfl rfl rfl (Hr 2 tk rfl rfl rfl rfl tv (Hn rfl (Lw q4 p4))))))
 ·refine Qn (Ws (G (R 2 rfl (NQ (Wd rfl H (fun H=>?_) (fun H=>?_))))))
  ·refine G (R 2 rfl ?_)
   obtain ⟨x18,hx18,H⟩:=an H
   refine Cl [1,2] (dc 0 1 2 rfl _ _ _ hx18) de rfl p3 rfl (NQ (Wt (QT.r ?_)))
   cases H
   exact Ea rfl rfl rfl p3
  refine Wk (Qn (Ws (G (R 3 rfl ?_))))
  obtain ⟨x19,hx19,H⟩:=an H
  refine Cl [] (qX _ hx19) qY rfl tv rfl (R 2 rfl (N (R 2 rfl (NQ (Wd rfl H (fun H=>?_) (fun H=>?_))))))
  ·refine G (R 2 rfl ?_)
   obtain ⟨x21,hx21,H⟩:=an H
   refine Cl [1,2] (dc 0 1 2 rfl _ _ _ hx21) de rfl p3 rfl (NQ (Wt (QT.r ?_)))
   cases H
   exact Ea rfl rfl rfl p3
  refine Wk (Qn (Ws (G (R 2 rfl ?_))))
  obtain ⟨x22,hx22,H⟩:=an H
  refine Cl [] (u6 _ hx22) u7 rfl tv rfl (R 1 rfl (WL.split (g:=67) rfl (fun h23=>?_) (fun h23=>?_)))
  ·replace H:=of_t H h23
   refine WL.grun 5 3 true 67 tk sg0 rfl rfl rfl rfl tv ?_
   obtain ⟨x24,hx24,H⟩:=an H
   refine WL.gcall [1,2] (cH 0 1 2 rfl _ _ _ _ hx24) cI rfl rfl p3 rfl rfl rfl rfl rfl rfl (WL.grun 1 3 true 67 tk sg0 rfl rfl rfl rfl tv (WL.pickT rfl rfl rfl rfl rfl rfl (NQ (Wd rfl H (fun H=>?_) (fun H=>?_)))))
   ·refine Wt (QT.r ?_)
    cases H
    exact Ea rfl rfl rfl p3
   refine Wk (Qn (G (R 4 rfl (Wx 3 3 false tk sg0 rfl rfl (fun _=>tv) (RS 1 rfl ⟨by first | exact id | exact fun h=>by rw [h];rfl | simp_all,tv⟩ (NQ (Wd rfl H (fun H=>?_) (fun H=>?_))))))))
   ·refine Wg (R 5 rfl ?_)
    obtain ⟨x27,hx27,H⟩:=an H
    refine Cl [1,2] (cH 0 1 2 rfl _ _ _ _ hx27) cI rfl p3 rfl (Wn ?_)
    cases H
    exact Ends.auton rfl rfl rfl p3
   refine Wk ?_
   cases H
   exact Ends.auton rfl rfl rfl p3
  ·replace H:=of_f H h23
   refine WL.gskips 7 3 true 67 rfl rfl rfl rfl (WL.pickF rfl rfl rfl rfl rfl rfl (NQ (Wc rfl (fun h=>absurd h (by decide)) (fun h=>?_))))
   refine Wk (Qn (G (R 4 rfl (Wx 3 3 false tk sg0 rfl rfl (fun _=>tv) (RS 1 rfl ⟨by first | exact id | exact fun h=>by rw [h];rfl | simp_all,tv⟩ (NQ (Wd rfl H (fun H=>?_) (fun H=>?_))))))))
   ·refine Wg (R 5 rfl ?_)
    obtain ⟨x29,hx29,H⟩:=an H
    refine Cl [1,2] (cH 0 1 2 rfl _ _ _ _ hx29) cI rfl p3 rfl (Wn ?_)
    cases H
    exact Ends.auton rfl rfl rfl p3
   refine Wk ?_
   cases H
   exact Ends.auton rfl rfl rfl p3
theorem ou (n0 n1 n2:Nat) (hn:cJ [n0,n1,n2]=true) (a0:aH) (a1:Int) {r:aH} (H:cC a0 a1=some r):LJ.Spec Tryz.prog 116 [.ptr n0 0, .d (.int .i64 a1)] [(n0, .box 191 [.d (slT ai a0.p.Decls), .d (slT aa a0.p.Waits), .d (slT ak a0.p.Funcs), .d (slT aE a0.code), .own n1, .own n2, .d (.int .i64 a0.at_), .d (.int .i64 a0.err)]),(n1, .row 3 1 (a0.depth.map aA)),(n2, .row 4 1 (a0.next.map bw))] (.tup []) [(n1, .row 3 1 (r.depth.map aA)),(n2, .row 4 1 (r.next.map bw)),(n0, .box 191 [.d (slT ai r.p.Decls), .d (slT aa r.p.Waits), .d (slT ak r.p.Funcs), .d (slT aE r.code), .own n1, .own n2, .d (.int .i64 r.at_), .d (.int .i64 r.err)])]:=
 Spec.names [n0,n1,n2] hn rfl rfl (ot a0 a1 H)
theorem ov:aF Tryz.prog 116 Tryz.f116:=⟨Tryz.func116,rfl,by kernel_rfl⟩
theorem yT (a0:ah) (a1:Int) {r:(List Int)×Int×Int} (H:nh a0 a1=some r):LJ.Spec Tryz.prog 90 [.d (.agg [slT ai a0.Decls,slT aa a0.Waits,slT ak a0.Funcs]), .d (.int .i64 a1)] [] (.tup [.d (slT aA r.1), .d (.int .i64 r.2.1), .d (.int .i64 r.2.2)]) []:=by
 refine LJ.Spec.code Tryz.func90 rfl 101 rfl rfl [] rfl fun w0 F0 S0 B0=>?_
 unfold nh at H
 refine G (Ef 102 rfl (R 3 rfl (NS (G (R 3 rfl (Wx 5 2 false tk sg0 rfl rfl (fun _=>tv) (RS 1 rfl ⟨by first | exact id | exact fun h=>by rw [h];rfl | simp_all,tv⟩ (NQ (Wd rfl H (fun H=>?_) (fun H=>?_))))))))))
 ·refine G (R 3 rfl (NQ (WC.nilT 4 aA rfl (Wt (QT.r ?_)))))
  cases H
  exact Ea rfl rfl rfl tv
 refine Wk (Qn (Ws (Hp (.one 0 true (.one 1 true (.one 2 true (.one 3 true (.one 4 true (.one 5 true (.one 6 true (.one 7 true (.one 8 false (.one 9 true .done)))))))))) [102] [102] rfl (by kernel_rfl) rfl (by kernel_rfl) rfl rfl (fun _ h=>h) rfl rfl rfl (fun _ _ _ h=>h) fun FK NK wK K=>?_)))
 obtain ⟨g2,H⟩:=ay H
 refine Hr 8 tk rfl rfl rfl rfl ⟨⟨(al g2).1,(al g2).2,rfl⟩,tv⟩ (He 127 tk ek rfl rfl rfl rfl tv rfl rfl (WH.mv rfl rfl rfl rfl rfl rfl rfl rfl rfl (WH.nil rfl (Qn (G (R 6 rfl ?_))))))
 obtain ⟨g3,H⟩:=ay H
 refine WL.makeT (r:=134) aA (0:Int) (((a0.Funcs.getD a1.toNat default).Code).length:Int) tk ek rfl rfl rfl rfl rfl rfl rfl (qm g3) rfl rfl rfl rfl (R 2 rfl (Ef 0 rfl (NS (G (R 6 rfl (NQ (Wb (Wl (ι:= {x:Nat×(Int×(List Int)) //gd a0 a1 x.1 x.2=some r}) (fun x=>[(7, .ptr 127 0),(41, .d (.int .i64 (((List.replicate (((a0.Funcs.getD a1.toNat default).Code).length:Int).toNat (0:Int)).map aA).length:Int))),(42, .d (.int .i64 x.1.2.1))]) (fun x=>[(127, .box 191 [.d (slT ai a0.Decls), .d (slT aa a0.Waits), .d (slT ak a0.Funcs), .d (slT aE ((a0.Funcs.getD a1.toNat default).Code)), .own 134, .d (.nils), .d (.int .i64 0), .d (.int .i64 0)]),(134, .row 3 1 (x.1.2.2.map aA))]) (fun x=>x.1.1) ⟨(fuel,(0,List.replicate (((a0.Funcs.getD a1.toNat default).Code).length:Int).toNat (0:Int))),H⟩ (Lm p3 p2) fun x=>?_))))))))
 obtain ⟨⟨k5,s4⟩,H⟩:=x
 rcases k5 with _ | k5
 ·exact aO H
 rw [gd] at H
 refine G (R 1 rfl (NS (Wd rfl H (fun H=>?_) (fun H=>?_))))
 ·refine Wk (Qn (Ws (Wb (G (R 2 rfl (NQ (Wg (R 5 rfl ?_))))))))
  obtain ⟨g7,H⟩:=ay H
  refine WL.yv (LJ.Y.idxRel aA s4.2 s4.1 tk rfl rfl rfl rfl rfl (al g7)) rfl rfl rfl (WL.storeRel aA s4.2 s4.1 0 (-1) (.int .i64 (-1)) rfl rfl rfl rfl (fun _=>rfl) rfl (by kernel_rfl) rfl rfl (by first | exact al g7 | (have:=al g7;simpa only [List.length_set,List.length_map] using this)) rfl rfl rfl rfl ?_)
  refine Wn (Qb (Qn ?_))
  exact Wg (R 2 rfl (NQ (⟨⟨(k5,(IntKind.i64.wrap (s4.1+1),s4.2.set s4.1.toNat (-1))),H⟩,Z,Lm p3 p2⟩)))
 refine WC.exit (Qx (Qx (Qh (Qn ?_))))
 refine Ws (G (R 6 rfl (NQ (Wd rfl H (fun H=>?_) (fun H=>?_)))))
 ·refine G (R 3 rfl (NQ (WC.nilT 4 aA rfl (Wt (QT.r ?_)))))
  cases H
  exact Ea rfl rfl rfl tv
 refine Wk (Qn (G (R 6 rfl ?_)))
 obtain ⟨g9,H⟩:=ay H
 refine WL.makeT (r:=164) bw (false:Bool) (((a0.Funcs.getD a1.toNat default).Code).length:Int) tk ek rfl rfl rfl rfl rfl rfl rfl (qm g9) rfl rfl rfl rfl (R 2 rfl (Ef 0 rfl (N (R 1 rfl ?_))))
 obtain ⟨x10,hx10,H⟩:=an H
 refine Cl [134,164] (cH 127 134 164 rfl _ _ _ _ hx10) cI rfl p3 rfl (NS (G (R 1 rfl ?_)))
 obtain ⟨x11,hx11,H⟩:=an H
 refine Cl [134,164] (jR 127 134 164 rfl _ hx11) jS rfl p3 rfl (R 1 rfl (NQ (Wb (Wl (ι:= {x:Nat×(Int×(List ab)×(List (List (List af)))×(List aq)×(List ar)×Int×Int×(List Int)×(List Bool)) //eh x.1 x.2=some r}) (fun x=>[(7, .ptr 127 0),(9, .d (.int .i64 x.1.2.1))]) (fun x=>[(127, .box 191 [.d (slT ai x.1.2.2.1), .d (slT aa x.1.2.2.2.1), .d (slT ak x.1.2.2.2.2.1), .d (slT aE x.1.2.2.2.2.2.1), .own 134, .own 164, .d (.int .i64 x.1.2.2.2.2.2.2.1), .d (.int .i64 x.1.2.2.2.2.2.2.2.1)]),(134, .row 3 1 (x.1.2.2.2.2.2.2.2.2.1.map aA)),(164, .row 4 1 (x.1.2.2.2.2.2.2.2.2.2.map bw))]) (fun x=>x.1.1) ⟨(fuel,(x11,x10.2.p.Decls,x10.2.p.Waits,x10.2.p.Funcs,x10.2.code,x10.2.at_,x10.2.err,x10.2.depth,x10.2.next)),H⟩ (Lm p2 p3) fun x=>?_))))
 obtain ⟨⟨k13,s12⟩,H⟩:=x
 rcases k13 with _ | k13
 ·exact aO H
 rw [eh] at H
 refine Ws (G (R 2 rfl (NQ (Wd rfl H (fun H=>?_) (fun H=>?_)))))
 ·refine Wk (Qn (Ws (Wb (G (R 5 rfl ?_)))))
  obtain ⟨g15,H⟩:=ay H
  refine WL.yv (LJ.Y.idxRel bw s12.2.2.2.2.2.2.2.2 s12.1 tk rfl rfl rfl rfl rfl (al g15)) rfl rfl rfl (WL.storeRel bw s12.2.2.2.2.2.2.2.2 s12.1 0 false (.bool false) rfl rfl rfl rfl (fun _=>rfl) rfl (by kernel_rfl) rfl rfl (by first | exact al g15 | (have:=al g15;simpa only [List.length_set,List.length_map] using this)) rfl rfl rfl rfl ?_)
  refine NQ (Wg (R 2 rfl ?_))
  obtain ⟨x16,hx16,H⟩:=an H
  refine Cl [134,164] (ou 127 134 164 rfl _ _ hx16) ov rfl p3 rfl (Wn (Qb (Qn ?_)))
  refine Wg (R 1 rfl ?_)
  obtain ⟨x17,hx17,H⟩:=an H
  exact Cl [134,164] (jR 127 134 164 rfl _ hx17) jS rfl p3 rfl (R 1 rfl (NQ (⟨⟨(k13,(x17,x16.p.Decls,x16.p.Waits,x16.p.Funcs,x16.code,x16.at_,x16.err,x16.depth,x16.next)),H⟩,Z,Lm p2 p3⟩)))
 refine WC.exit (Qx (Qx (Qh (Qn ?_))))
 refine Ws (G (R 5 rfl (NQ (Wd rfl H (fun H=>?_) (fun H=>?_)))))
 ·refine Ws (Hp (.one 0 true (.one 1 true (.one 2 true (.one 3 true (.one 4 true (.one 5 true (.one 6 true (.one 7 true (.one 8 true (.one 9 true (.one 10 true .done))))))))))) [127] [127] rfl (by kernel_rfl) rfl (by kernel_rfl) rfl rfl (fun _ h=>h) rfl rfl rfl (fun _ _ _ h=>h) fun FK NK wK K=>(Hr 11 tk rfl rfl rfl rfl tv (WH.nil rfl (Qn (WC.nilT 4 aA rfl (Wt (QT.r ?_)))))))
  cases H
  exact Ea rfl rfl rfl tv
 refine Wk (Qn (G (R 7 rfl (NQ (WC.freezeT 134 aA s12.2.2.2.2.2.2.2.1 rfl rfl rfl rfl (Wt ?_))))))
 cases H
 exact Ea rfl rfl rfl tv
theorem yU:aF Tryz.prog 90 Tryz.f90:=⟨Tryz.func90,rfl,by kernel_rfl⟩
theorem ow (a0:ah) (a1:Int) {r:Int×Int} (H:gB a0 a1=some r):LJ.Spec Tryz.prog 56 [.d (.agg [slT ai a0.Decls,slT aa a0.Waits,slT ak a0.Funcs]), .d (.int .i64 a1)] [] (.tup [.d (.int .i64 r.1), .d (.int .i64 r.2)]) []:=by
 refine LJ.Spec.code Tryz.func56 rfl 67 rfl rfl [] rfl fun w0 F0 S0 B0=>?_
 unfold gB at H
 refine G (Ef 102 rfl (R 2 rfl (NS (Wg ?_))))
 obtain ⟨g1,H⟩:=ay H
 refine RS 5 rfl ⟨⟨(al g1).1,(al g1).2,rfl⟩,tv⟩ (Wa 106 tk rfl rfl rfl (Ef 0 rfl (NS (G (R 4 rfl (NQ (Wb (Wl (ι:= {x:Nat×Int //cD a0 a1 x.1 x.2=some r}) (fun x=>[(1, .d (.int .i64 a1)),(2, .ptr 102 0),(6, .ptr 106 0),(22, .d (slT aE ((a0.Funcs.getD a1.toNat default).Code))),(23, .d (.int .i64 (((a0.Funcs.getD a1.toNat default).Code).length:Int))),(24, .d (.int .i64 x.1.2))]) (fun x=>[(102, .box 28 [.d (slT ai a0.Decls), .d (slT aa a0.Waits), .d (slT ak a0.Funcs)]),(106, .box 98 [.d (.int .i64 ((a0.Funcs.getD a1.toNat default).Args)), .d (.int .i64 ((a0.Funcs.getD a1.toNat default).Locals)), .d (slT aE ((a0.Funcs.getD a1.toNat default).Code))])]) (fun x=>x.1.1) ⟨(fuel,0),H⟩ (Lm p6 p2) fun x=>?_))))))))
 obtain ⟨⟨k3,s2⟩,H⟩:=x
 rcases k3 with _ | k3
 ·exact aO H
 rw [cD] at H
 refine G (R 1 rfl (NS (Wd rfl H (fun H=>?_) (fun H=>?_))))
 ·refine Wk (Qn ?_)
  obtain ⟨K5,hK5,H⟩:=db H
  refine WC.cut (fun E m=>∃ s6:Unit,K5 s6=some r∧iA E m [(1, .d (.int .i64 a1)),(2, .ptr 102 0),(6, .ptr 106 0),(22, .d (slT aE ((a0.Funcs.getD a1.toNat default).Code))),(23, .d (.int .i64 (((a0.Funcs.getD a1.toNat default).Code).length:Int))),(24, .d (.int .i64 s2))] [(102, .box 28 [.d (slT ai a0.Decls), .d (slT aa a0.Waits), .d (slT ak a0.Funcs)]),(106, .box 98 [.d (.int .i64 ((a0.Funcs.getD a1.toNat default).Args)), .d (.int .i64 ((a0.Funcs.getD a1.toNat default).Locals)), .d (slT aE ((a0.Funcs.getD a1.toNat default).Code))])]) ?_ ?_
  ·refine Wb (G ?_)
   obtain ⟨g7,H⟩:=ay H
   refine RS 3 rfl ⟨⟨(al g7).1,(al g7).2,rfl⟩,tv⟩ (Wa 108 tk rfl rfl rfl (R 1 rfl (Ef 0 rfl (N (R 4 rfl (WL.yv (LJ.Y.buildArr 2 [.int .i64 0, .int .i64 0] [.int .i64 ((((a0.Funcs.getD a1.toNat default).Code).getD s2.toNat default).A), .int .i64 ((((a0.Funcs.getD a1.toNat default).Code).getD s2.toNat default).B)] (by kernel_rfl) (by kernel_rfl) rfl rfl rfl) rfl rfl rfl (WL.allocZ 109 [.int .i64 0, .int .i64 0] rfl (by kernel_rfl) rfl rfl rfl rfl (Ef 0 rfl (N (R 2 rfl ?_))))))))))
   obtain ⟨x8,hx8,H⟩:=an H
   refine Cl [] (gK _ hx8) gL rfl tv rfl (WL.wo (WO.bytesD Cc x8 rfl rfl rfl (by kernel_rfl) rfl rfl) rfl (R 2 rfl (NQ (Wb (Wl (ι:= {x:Nat×Int //cw a0 a1 s2 K5 x8 x.1 x.2=some r}) (fun x=>[(1, .d (.int .i64 a1)),(2, .ptr 102 0),(6, .ptr 106 0),(7, .d (.int .i64 s2)),(8, .ptr 108 0),(9, .ptr 109 0),(22, .d (slT aE ((a0.Funcs.getD a1.toNat default).Code))),(23, .d (.int .i64 (((a0.Funcs.getD a1.toNat default).Code).length:Int))),(24, .d (.int .i64 s2)),(37, .d (slT Cc (jG x8))),(38, .d (.int .i64 ((jG x8).length:Int))),(39, .d (.int .i64 x.1.2))]) (fun x=>[(102, .box 28 [.d (slT ai a0.Decls), .d (slT aa a0.Waits), .d (slT ak a0.Funcs)]),(106, .box 98 [.d (.int .i64 ((a0.Funcs.getD a1.toNat default).Args)), .d (.int .i64 ((a0.Funcs.getD a1.toNat default).Locals)), .d (slT aE ((a0.Funcs.getD a1.toNat default).Code))]),(108, .box 100 [.d (.int .i64 ((((a0.Funcs.getD a1.toNat default).Code).getD s2.toNat default).Op)), .d (.int .i64 ((((a0.Funcs.getD a1.toNat default).Code).getD s2.toNat default).A)), .d (.int .i64 ((((a0.Funcs.getD a1.toNat default).Code).getD s2.toNat default).B))]),(109, .box 161 [.d (.int .i64 ((((a0.Funcs.getD a1.toNat default).Code).getD s2.toNat default).A)), .d (.int .i64 ((((a0.Funcs.getD a1.toNat default).Code).getD s2.toNat default).B))])]) (fun x=>x.1.1) ⟨(fuel,0),H⟩ (Lm p12 p4) fun x=>?_)))))
   obtain ⟨⟨k10,s9⟩,H⟩:=x
   rcases k10 with _ | k10
   ·exact aO H
   rw [cw] at H
   refine G (R 1 rfl (NS (Wd rfl H (fun H=>?_) (fun H=>?_))))
   ·refine Wk (Qn (Ws (Wb (G ?_))))
    obtain ⟨g12,H⟩:=ay H
    refine RS 5 rfl ⟨⟨(al g12).1,(al g12).2,rfl⟩,tv⟩ (NS (Hp (.one 0 true (.one 1 true (.one 2 true (.one 3 true (.one 4 true (.one 5 true (.one 6 true (.one 7 false (.one 8 true .done))))))))) [102,106,108,109] [102,106,108,109] rfl (by kernel_rfl) rfl (by kernel_rfl) rfl rfl (fun _ h=>h) rfl rfl rfl (fun _ _ _ h=>h) fun FK NK wK K=>(Hr 5 tk rfl rfl rfl rfl tv ?_)))
    obtain ⟨g13,H⟩:=ay H
    refine WH.yv rfl (LJ.Y.idxPtrA 2 s9 (by kernel_rfl) rfl rfl rfl (al g13)) rfl rfl rfl (WH.yv rfl (LJ.Y.loadPtrA 2 0 (fun k=> .int .i64 (([(((a0.Funcs.getD a1.toNat default).Code).getD s2.toNat default).A,(((a0.Funcs.getD a1.toNat default).Code).getD s2.toNat default).B]:List Int).getD k default)) s9 rfl rfl rfl (by kernel_rfl) rfl (al g13)) rfl rfl rfl ?_)
    obtain ⟨x14,hx14,H⟩:=an H
    refine WH.call [] rfl (pk _ _ _ _ _ hx14) pn rfl rfl tv rfl rfl rfl rfl rfl (Hr 1 tk rfl rfl rfl rfl tv (WH.nil rfl (Qn (G (R 2 rfl (NQ (Wd rfl H (fun H=>?_) (fun H=>?_))))))))
    ·refine G (R 4 rfl (NQ (Wt (QB.r (QT.r (QT.r (QB.r (QB.r (QT.r (QT.r (QB.r (QT.r ?_))))))))))))
     cases H
     exact Ea rfl rfl rfl tv
    refine Wk (Qb (Qn ?_))
    exact Wg (R 2 rfl (NQ (⟨⟨(k10,IntKind.i64.wrap (s9+1)),H⟩,Z,Lm p12 p4⟩)))
   refine WC.exit (Qx (Qx (Qh (Qb (Qn ?_)))))
   exact ⟨Unit.unit,H,Lw q6 p2⟩
  ·rintro E m ⟨s6,H,hl⟩
   refine WC.lessW hl ?_
   replace H:=(hK5 _).symm.trans H
   try dsimp only at H
   exact Wg (R 2 rfl (NQ (⟨⟨(k3,IntKind.i64.wrap (s2+1)),H⟩,Z,Lm p6 p2⟩)))
 refine WC.exit (Qx (Qx (Qh (Qn ?_))))
 refine G (R 2 rfl ?_)
 obtain ⟨x16,hx16,H⟩:=an H
 refine Cl [] (yT _ _ hx16) yU rfl tv rfl (R 7 rfl (N (R 4 rfl (NQ (Wt ?_)))))
 cases H
 exact Ea rfl rfl rfl tv
theorem ox:aF Tryz.prog 56 Tryz.f56:=⟨Tryz.func56,rfl,by kernel_rfl⟩
theorem po (a0:ah) {r:cT×Int} (H:dW a0=some r):LJ.Spec Tryz.prog 27 [.d (.agg [slT ai a0.Decls,slT aa a0.Waits,slT ak a0.Funcs])] [] (.tup [.d (.agg [.int .i64 r.1.Fn, .int .i64 r.1.Pc]), .d (.int .i64 r.2)]) []:=by
 refine LJ.Spec.code Tryz.func27 rfl 41 rfl rfl [] rfl fun w0 F0 S0 B0=>?_
 unfold dW at H
 refine G (Ef 101 rfl (Wa 102 tk rfl rfl rfl (R 1 rfl (NS (G (R 1 rfl ?_))))))
 obtain ⟨x1,hx1,H⟩:=an H
 refine Cl [] (lG _ hx1) lH rfl tv rfl (R 1 rfl (N (R 2 rfl (NQ (Wd rfl H (fun H=>?_) (fun H=>?_))))))
 ·refine G (R 2 rfl (Ef 0 rfl (R 1 rfl (NQ (Wt (QT.r ?_))))))
  cases H
  exact Ends.autoC tk rfl rfl rfl tv
 refine Wk (Qn (Ws (G ?_)))
 obtain ⟨g3,H⟩:=ay H
 refine RS 6 rfl ⟨⟨(al g3).1,(al g3).2,rfl⟩,tv⟩ (NQ (Wd rfl H (fun H=>?_) (fun H=>?_)))
 ·refine G (R 1 rfl (Ef 0 rfl (R 1 rfl (NQ (Wt (QT.r ?_))))))
  cases H
  exact Ends.autoC tk rfl rfl rfl tv
 refine Wk (Qn (Ws (G (R 4 rfl (NQ (Wb (Wl (ι:= {x:Nat×Int //cS a0 x.1 x.2=some r}) (fun x=>[(1, .ptr 101 0),(2, .ptr 102 0),(23, .d (.int .i64 (a0.Funcs.length:Int))),(24, .d (.int .i64 x.1.2))]) (fun x=>[(101, .box 28 [.d (slT ai a0.Decls), .d (slT aa a0.Waits), .d (slT ak a0.Funcs)]),(102, .box 68 [.d (.int .i64 0), .d (.int .i64 0)])]) (fun x=>x.1.1) ⟨(fuel,0),H⟩ (Lm p4 p2) fun x=>?_)))))))
 obtain ⟨⟨k6,s5⟩,H⟩:=x
 rcases k6 with _ | k6
 ·exact aO H
 rw [cS] at H
 refine G (R 1 rfl (NS (Wd rfl H (fun H=>?_) (fun H=>?_))))
 ·refine Wk (Qn (Ws (Wb (G (R 2 rfl (N (R 2 rfl ?_)))))))
  obtain ⟨x8,hx8,H⟩:=an H
  refine Cl [] (ow _ _ hx8) ox rfl tv rfl (R 5 rfl (N (R 2 rfl (NQ (Wd rfl H (fun H=>?_) (fun H=>?_))))))
  ·refine G (R 4 rfl (Ef 0 rfl (R 1 rfl (NQ (Wt (QB.r (QT.r (QT.r (QB.r (QT.r ?_))))))))))
   cases H
   exact Ends.autoC tk rfl rfl rfl tv
  refine Wk (Qb (Qn ?_))
  exact Wg (R 2 rfl (NQ (⟨⟨(k6,IntKind.i64.wrap (s5+1)),H⟩,Z,Lm p4 p2⟩)))
 refine WC.exit (Qx (Qx (Qh (Qn ?_))))
 refine G (R 1 rfl (Ef 0 rfl (R 1 rfl (NQ (Wt ?_)))))
 cases H
 exact Ends.autoC tk rfl rfl rfl tv
theorem pq:aF Tryz.prog 27 Tryz.f27:=⟨Tryz.func27,rfl,by kernel_rfl⟩
theorem fN (a0:aw) {r:Int} (H:dN a0=some r):LJ.Spec Tryz.prog 10 [.d (.agg [.int .i64 a0.Config.Mode, .int .i64 a0.Config.Workers, .int .i64 a0.Config.Quantum, .int .i64 a0.Config.Policy,slT ai a0.Program.Decls,slT aa a0.Program.Waits,slT ak a0.Program.Funcs,slT aC a0.Events])] [] (.d (.int .i64 r)) []:=by
 refine LJ.Spec.code Tryz.func10 rfl 53 rfl rfl [] rfl fun w0 F0 S0 B0=>?_
 unfold dN at H
 refine G (Ef 101 rfl (R 1 rfl (NS (G (R 2 rfl ?_)))))
 obtain ⟨x1,hx1,H⟩:=an H
 refine Cl [] (qP _ hx1) qQ rfl tv rfl (R 1 rfl (N (R 2 rfl (NQ (Wd rfl H (fun H=>?_) (fun H=>?_))))))
 ·refine G (R 2 rfl (NQ (Wt (QT.r ?_))))
  cases H
  exact Ea rfl rfl rfl tv
 refine Wk (Qn (Ws (G (R 2 rfl ?_))))
 obtain ⟨x3,hx3,H⟩:=an H
 refine Cl [] (po _ hx3) pq rfl tv rfl (R 3 rfl (Wa 104 tk rfl rfl rfl (Ef 0 rfl (R 1 rfl (N (R 2 rfl (NQ (Wd rfl H (fun H=>?_) (fun H=>?_)))))))))
 ·refine G (R 2 rfl (NQ (Wt (QT.r ?_))))
  cases H
  exact Ea rfl rfl rfl tv
 refine Wk (Qn (Ws (G (R 4 rfl (NQ (Wd rfl H (fun H=>?_) (fun H=>?_)))))))
 ·refine G (R 1 rfl (NQ (Wt (QT.r ?_))))
  cases H
  exact Ea rfl rfl rfl tv
 refine Wk (Qn (Ws (G (R 4 rfl (NQ (Wb (Wl (ι:= {x:Nat×Int //dB a0 x.1 x.2=some r}) (fun x=>[(28, .d (slT aC a0.Events)),(29, .d (.int .i64 (a0.Events.length:Int))),(30, .d (.int .i64 x.1.2))]) (fun x=>[]) (fun x=>x.1.1) ⟨(fuel,0),H⟩ (Lm p3 tv) fun x=>?_)))))))
 obtain ⟨⟨k7,s6⟩,H⟩:=x
 rcases k7 with _ | k7
 ·exact aO H
 rw [dB] at H
 refine G (R 1 rfl (NS (Wd rfl H (fun H=>?_) (fun H=>?_))))
 ·refine Wk (Qn (Ws (Wb (G ?_))))
  obtain ⟨g9,H⟩:=ay H
  refine RS 2 rfl ⟨⟨(al g9).1,(al g9).2,rfl⟩,tv⟩ (Wa 107 tk rfl rfl rfl (Ef 0 rfl (NQ (Wb (G (R 4 rfl (Wx 3 3 true tk sg0 rfl rfl (fun _=>tv) (RS 2 rfl ⟨by first | exact id | exact fun h=>by rw [h];rfl | simp_all,tv⟩ (NQ (Wd rfl H (fun H=>?_) (fun H=>?_)))))))))))
  ·refine G (R 1 rfl (NQ (Wt (QB.r (QB.r (QT.r (QT.r (QB.r (QT.r ?_)))))))))
   cases H
   exact Ea rfl rfl rfl tv
  refine G (R 4 rfl (Wx 3 3 true tk sg0 rfl rfl (fun _=>tv) (RS 2 rfl ⟨by first | exact id | exact fun h=>by rw [h];rfl | simp_all,tv⟩ (NQ (Wd rfl H (fun H=>?_) (fun H=>?_))))))
  ·refine G (R 1 rfl (NQ (Wt (QB.r (QB.r (QT.r (QT.r (QB.r (QT.r ?_)))))))))
   cases H
   exact Ea rfl rfl rfl tv
  refine Wk (Qb (Qb (Qn ?_)))
  exact Wg (R 2 rfl (NQ (⟨⟨(k7,IntKind.i64.wrap (s6+1)),H⟩,Z,Lm p3 tv⟩)))
 refine WC.exit (Qx (Qx (Qh (Qn ?_))))
 refine G (R 1 rfl (NQ (Wt ?_)))
 cases H
 exact Ea rfl rfl rfl tv
theorem fO:aF Tryz.prog 10 Tryz.f10:=⟨Tryz.func10,rfl,by kernel_rfl⟩
theorem qZ (a0:aD) (a1:Int) {r:aD} (H:bC a0 a1=some r):LJ.Spec Tryz.prog 21 [.ptr 0 0, .d (.int .u64 a1)] [(0, .box 59 [.own 1]),(1, .row 5 1 (bG a0.b))] (.tup []) [(1, .row 5 1 (bG r.b)),(0, .box 59 [.own 1])]:=by
 refine LJ.Spec.code Tryz.func21 rfl 33 rfl rfl [0] rfl fun w0 F0 S0 B0=>?_
 unfold bC at H
 refine Ws (G (R 2 rfl (NQ (Wc rfl (fun h=>absurd h (by decide)) (fun h=>?_)))))
 refine Wk (Qn ?_)
 obtain ⟨K1,hK1,H⟩:=db H
 refine WC.cut (fun E m=>∃ s2:Int×ByteArray,K1 s2=some r∧iA E m [(0, .ptr 0 0),(1, .d (.int .u64 s2.1))] [(0, .box 59 [.own 1]),(1, .row 5 1 (bG s2.2))]) ?_ ?_
 ·refine Wb (Wl (ι:= {x:Nat×(Int×ByteArray) //fS K1 x.1 x.2=some r}) (fun x=>[(0, .ptr 0 0),(1, .d (.int .u64 x.1.2.1))]) (fun x=>[(0, .box 59 [.own 1]),(1, .row 5 1 (bG x.1.2.2))]) (fun x=>x.1.1) ⟨(fuel,(a1,a0.b)),H⟩ (Lm p2 p2) fun x=>?_)
  obtain ⟨⟨k4,s3⟩,H⟩:=x
  rcases k4 with _ | k4
  ·exact aO H
  rw [fS] at H
  refine Ws (G (R 2 rfl (NQ (Wd rfl H (fun H=>?_) (fun H=>?_)))))
  ·refine Wk (Qn (Wb (G (R 8 rfl (Ef 116 rfl ?_)))))
   obtain ⟨g6,H⟩:=ay H
   obtain ⟨g7,H⟩:=ay H
   refine EF 0 rfl (mj rfl (bQ g6)) (WL.row 1 (bG (s3.2.push (UInt8.ofNat (Go.bits .or .u8 (IntKind.u8.wrap s3.1) 128).toNat))) rfl (qb (al g7).1 (al g7).2) rfl (R 2 rfl (Ef 0 rfl (NQ (Wg (R 3 rfl (Wn (Qb (Qn ?_)))))))))
   exact ⟨⟨(k4,(s3.1 /2 ^min (7:Int).toNat IntKind.u64.bits,s3.2.push (UInt8.ofNat (Go.bits .or .u8 (IntKind.u8.wrap s3.1) 128).toNat))),H⟩,Z,Lm p2 p2⟩
  refine WC.exit (Qx (Qx (Qh (Qn ?_))))
  exact ⟨(s3.1,s3.2),H,Lw q2 p2⟩
 ·rintro E m ⟨s2,H,hl⟩
  refine WC.lessW hl ?_
  replace H:=(hK1 _).symm.trans H
  try dsimp only at H
  refine Wg (R 7 rfl (Ef 129 rfl ?_))
  obtain ⟨g8,H⟩:=ay H
  obtain ⟨g9,H⟩:=ay H
  refine EF 0 rfl (mj rfl (bQ g8)) (WL.row 1 (bG (s2.2.push (UInt8.ofNat (IntKind.u8.wrap s2.1).toNat))) rfl (qb (al g9).1 (al g9).2) rfl (R 2 rfl (Ef 0 rfl (Wn ?_))))
  cases H
  exact Ends.auton rfl rfl rfl p2
theorem bA (n0 n1:Nat) (hn:cJ [n0,n1]=true) (a0:aD) (a1:Int) {r:aD} (H:bC a0 a1=some r):LJ.Spec Tryz.prog 21 [.ptr n0 0, .d (.int .u64 a1)] [(n0, .box 59 [.own n1]),(n1, .row 5 1 (bG a0.b))] (.tup []) [(n1, .row 5 1 (bG r.b)),(n0, .box 59 [.own n1])]:=
 Spec.names [n0,n1] hn rfl rfl (qZ a0 a1 H)
theorem bB:aF Tryz.prog 21 Tryz.f21:=⟨Tryz.func21,rfl,by kernel_rfl⟩
theorem pr (a0:aD) (a1:Int) {r:aD} (H:dX a0 a1=some r):LJ.Spec Tryz.prog 24 [.ptr 0 0, .d (.int .i64 a1)] [(0, .box 59 [.own 1]),(1, .row 5 1 (bG a0.b))] (.tup []) [(1, .row 5 1 (bG r.b)),(0, .box 59 [.own 1])]:=by
 refine LJ.Spec.code Tryz.func24 rfl 17 rfl rfl [0] rfl fun w0 F0 S0 B0=>?_
 unfold dX at H
 refine G (R 2 rfl (NQ (Wc rfl (fun h=>?_) (fun h=>absurd h (by decide)))))
 refine Wg (R 7 rfl (Ef 113 rfl ?_))
 obtain ⟨g1,H⟩:=ay H
 obtain ⟨g2,H⟩:=ay H
 refine EF 0 rfl (mj rfl (bQ g1)) (WL.row 1 (bG (a0.b.push (UInt8.ofNat (IntKind.u8.wrap a1).toNat))) rfl (qb (al g2).1 (al g2).2) rfl (R 2 rfl (Ef 0 rfl (Wn ?_))))
 cases H
 exact Ends.auton rfl rfl rfl p2
theorem fU (n0 n1:Nat) (hn:cJ [n0,n1]=true) (a0:aD) (a1:Int) {r:aD} (H:dX a0 a1=some r):LJ.Spec Tryz.prog 24 [.ptr n0 0, .d (.int .i64 a1)] [(n0, .box 59 [.own n1]),(n1, .row 5 1 (bG a0.b))] (.tup []) [(n1, .row 5 1 (bG r.b)),(n0, .box 59 [.own n1])]:=
 Spec.names [n0,n1] hn rfl rfl (pr a0 a1 H)
theorem fV:aF Tryz.prog 24 Tryz.f24:=⟨Tryz.func24,rfl,by kernel_rfl⟩
theorem ra (a0:aD) (a1:Int) {r:aD} (H:eB a0 a1=some r):LJ.Spec Tryz.prog 25 [.ptr 0 0, .d (.int .i64 a1)] [(0, .box 59 [.own 1]),(1, .row 5 1 (bG a0.b))] (.tup []) [(1, .row 5 1 (bG r.b)),(0, .box 59 [.own 1])]:=by
 refine LJ.Spec.code Tryz.func25 rfl 13 rfl rfl [0] rfl fun w0 F0 S0 B0=>?_
 unfold eB at H
 refine Wg (R 8 rfl ?_)
 obtain ⟨x1,hx1,H⟩:=an H
 refine Cl [1] (bA 0 1 rfl _ _ hx1) bB rfl p2 rfl (Wn ?_)
 cases H
 exact Ends.auton rfl rfl rfl p2
theorem gM (n0 n1:Nat) (hn:cJ [n0,n1]=true) (a0:aD) (a1:Int) {r:aD} (H:eB a0 a1=some r):LJ.Spec Tryz.prog 25 [.ptr n0 0, .d (.int .i64 a1)] [(n0, .box 59 [.own n1]),(n1, .row 5 1 (bG a0.b))] (.tup []) [(n1, .row 5 1 (bG r.b)),(n0, .box 59 [.own n1])]:=
 Spec.names [n0,n1] hn rfl rfl (ra a0 a1 H)
theorem gN:aF Tryz.prog 25 Tryz.f25:=⟨Tryz.func25,rfl,by kernel_rfl⟩
theorem pw (a0:aD) {r:ByteArray} (H:dw a0=some r):LJ.Spec Tryz.prog 26 [.ptr 0 0] [(0, .box 59 [.own 1]),(1, .row 5 1 (bG a0.b))] (.d (.str r)) [(1, .row 5 1 (bG a0.b)),(0, .box 59 [.own 1])]:=by
 refine LJ.Spec.code Tryz.func26 rfl 10 rfl rfl [0] rfl fun w0 F0 S0 B0=>?_
 unfold dw at H
 refine G (R 1 rfl (NS (G (R 2 rfl (NQ (Wc rfl (fun h=>absurd h (by decide)) (fun h=>?_)))))))
 refine Wk (Qn (G (R 4 rfl (WL.ownStr a0.b tk rfl rfl rfl rfl (R 1 rfl (NQ (Wt ?_)))))))
 cases H
 exact Ea rfl rfl rfl p2
theorem eP (n0 n1:Nat) (hn:cJ [n0,n1]=true) (a0:aD) {r:ByteArray} (H:dw a0=some r):LJ.Spec Tryz.prog 26 [.ptr n0 0] [(n0, .box 59 [.own n1]),(n1, .row 5 1 (bG a0.b))] (.d (.str r)) [(n1, .row 5 1 (bG a0.b)),(n0, .box 59 [.own n1])]:=
 Spec.names [n0,n1] hn rfl rfl (pw a0 H)
theorem eR:aF Tryz.prog 26 Tryz.f26:=⟨Tryz.func26,rfl,by kernel_rfl⟩
theorem yV (a0:List ab) {r:ByteArray×Int} (H:sH a0=some r):LJ.Spec Tryz.prog 50 [.d (slT ai a0)] [] (.tup [.d (.str r.1), .d (.int .i64 r.2)]) []:=by
 refine LJ.Spec.code Tryz.func50 rfl 69 rfl rfl [] rfl fun w0 F0 S0 B0=>?_
 unfold sH at H
 refine G (R 2 rfl (NS (G (R 1 rfl ?_))))
 obtain ⟨x1,hx1,H⟩:=an H
 refine Cl [] (lB _ hx1) lC rfl tv rfl (R 5 rfl (N (R 2 rfl (NQ (Wd rfl H (fun H=>?_) (fun H=>?_))))))
 ·refine G (R 3 rfl (NQ (Wt (QT.r ?_))))
  cases H
  exact Ea rfl rfl rfl tv
 refine Wk (Qn (G (R 1 rfl (Ef 118 rfl (R 1 rfl (N (R 4 rfl (WL.nilF 118 0 4180 5 1 rfl (WL.row 4180 (bG ByteArray.empty) rfl rfl rfl ?_)))))))))
 obtain ⟨x3,hx3,H⟩:=an H
 refine Cl [4180] (bA 118 4180 rfl _ _ hx3) bB rfl p2 rfl (NS (G (R 3 rfl (NQ (Wb (Wl (ι:= {x:Nat×(Int×ByteArray) //gf a0 x.1 x.2=some r}) (fun x=>[(6, .ptr 118 0),(24, .d (slT ai a0)),(25, .d (.int .i64 (a0.length:Int))),(26, .d (.int .i64 x.1.2.1))]) (fun x=>[(118, .box 59 [.own 4180]),(4180, .row 5 1 (bG x.1.2.2))]) (fun x=>x.1.1) ⟨(fuel,(0,x3.b)),H⟩ (Lm p4 p2) fun x=>?_))))))
 obtain ⟨⟨k5,s4⟩,H⟩:=x
 rcases k5 with _ | k5
 ·exact aO H
 rw [gf] at H
 refine G (R 1 rfl (NS (Wd rfl H (fun H=>?_) (fun H=>?_))))
 ·refine Wk (Qn (Ws (Wb (G ?_))))
  obtain ⟨g7,H⟩:=ay H
  refine RS 2 rfl ⟨⟨(al g7).1,(al g7).2,rfl⟩,tv⟩ (Wa 108 tk rfl rfl rfl (Ef 0 rfl (N (R 3 rfl ?_))))
  obtain ⟨x8,hx8,H⟩:=an H
  refine Cl [4180] (fU 118 4180 rfl _ _ hx8) fV rfl p2 rfl (N (R 2 rfl (NQ (Wb (G (R 2 rfl (NQ (Wd rfl H (fun H=>?_) (fun H=>?_)))))))))
  ·refine G (R 4 rfl ?_)
   obtain ⟨x10,hx10,H⟩:=an H
   refine Cl [4180] (bA 118 4180 rfl _ _ hx10) bB rfl p2 rfl (NQ (Wg (R 4 rfl ?_)))
   obtain ⟨x11,hx11,H⟩:=an H
   refine Cl [4180] (bA 118 4180 rfl _ _ hx11) bB rfl p2 rfl (Wn (Qb (Qb (Qn ?_))))
   exact Wg (R 2 rfl (NQ (⟨⟨(k5,(IntKind.i64.wrap (s4.1+1),x11.b)),H⟩,Z,Lm p4 p2⟩)))
  refine G (R 2 rfl (NQ (Wd rfl H (fun H=>?_) (fun H=>?_))))
  ·refine Wg (R 4 rfl ?_)
   obtain ⟨x13,hx13,H⟩:=an H
   refine Cl [4180] (bA 118 4180 rfl _ _ hx13) bB rfl p2 rfl (Wn (Qb (Qb (Qn ?_))))
   exact Wg (R 2 rfl (NQ (⟨⟨(k5,(IntKind.i64.wrap (s4.1+1),x13.b)),H⟩,Z,Lm p4 p2⟩)))
  refine G (R 2 rfl (NQ (Wd rfl H (fun H=>?_) (fun H=>?_))))
  ·refine G (R 3 rfl ?_)
   obtain ⟨x15,hx15,H⟩:=an H
   refine Cl [4180] (gM 118 4180 rfl _ _ hx15) gN rfl p2 rfl (NQ (Wg (R 4 rfl ?_)))
   obtain ⟨x16,hx16,H⟩:=an H
   refine Cl [4180] (bA 118 4180 rfl _ _ hx16) bB rfl p2 rfl (Wn (Qb (Qb (Qn ?_))))
   exact Wg (R 2 rfl (NQ (⟨⟨(k5,(IntKind.i64.wrap (s4.1+1),x16.b)),H⟩,Z,Lm p4 p2⟩)))
  refine Wk (Qb (Qb (Qn ?_)))
  exact Wg (R 2 rfl (NQ (⟨⟨(k5,(IntKind.i64.wrap (s4.1+1),x8.b)),H⟩,Z,Lm p4 p2⟩)))
 refine WC.exit (Qx (Qx (Qh (Qn ?_))))
 refine G (R 1 rfl ?_)
 obtain ⟨x17,hx17,H⟩:=an H
 refine Cl [4180] (eP 118 4180 rfl _ hx17) eR rfl p2 rfl (R 2 rfl (NQ (Wt ?_)))
 cases H
 exact Ea rfl rfl rfl tv
theorem yW:aF Tryz.prog 50 Tryz.f50:=⟨Tryz.func50,rfl,by kernel_rfl⟩
theorem kj (a0:Int) {r:ByteArray} (H:kE a0=some r):LJ.Spec Tryz.prog 52 [.d (.int .i64 a0)] [] (.d (.str r)) []:=by
 refine LJ.Spec.code Tryz.func52 rfl 12 rfl rfl [] rfl fun w0 F0 S0 B0=>?_
 unfold kE at H
 refine G (R 1 rfl (N (R 1 rfl (Ef 105 rfl (R 1 rfl (N (R 3 rfl (WL.nilF 105 0 4050 5 1 rfl (WL.row 4050 (bG ByteArray.empty) rfl rfl rfl ?_)))))))))
 obtain ⟨x1,hx1,H⟩:=an H
 refine Cl [4050] (bA 105 4050 rfl _ _ hx1) bB rfl p2 rfl (N (R 1 rfl ?_))
 obtain ⟨x2,hx2,H⟩:=an H
 refine Cl [4050] (eP 105 4050 rfl _ hx2) eR rfl p2 rfl (R 1 rfl (NQ (Wt ?_)))
 cases H
 exact Ea rfl rfl rfl tv
theorem kl:aF Tryz.prog 52 Tryz.f52:=⟨Tryz.func52,rfl,by kernel_rfl⟩
theorem jw (a0:aK) {r:aK} (H:cV a0=some r):LJ.Spec Tryz.prog 85 [.ptr 0 0] [(0, .box 109 [.optp a0.addr 0 0, .own 1]),(1, .row 5 1 (bG a0.buf))] (.tup []) [(1, .row 5 1 (bG r.buf)),(0, .box 109 [.optp r.addr 0 0, .own 1])]:=by
 refine LJ.Spec.code Tryz.func85 rfl 20 rfl rfl [0] rfl fun w0 F0 S0 B0=>?_
 unfold cV at H
 refine G (R 4 rfl (WL.yv (LJ.Y.oeql rfl rfl rfl (by kernel_rfl)) rfl rfl rfl (NQ (Wd rfl H (fun H=>?_) (fun H=>?_)))))
 ·refine Wg (R 2 rfl (WL.yv (LJ.Y.toUns 109 rfl rfl rfl rfl (by kernel_rfl) (by kernel_rfl) (by kernel_rfl)) rfl rfl rfl (WL.yv (LJ.Y.noEsc rfl rfl Tryz.func108 (by kernel_rfl) (by kernel_rfl) (by kernel_rfl) (by kernel_rfl)) rfl rfl rfl (WL.yv (LJ.Y.fromUns 109 rfl rfl rfl (by kernel_rfl) (by kernel_rfl) (by kernel_rfl) (by kernel_rfl)) rfl rfl rfl (R 2 rfl (Ef 0 rfl (Wn ?_)))))))
  cases H
  exact Ends.auton rfl rfl rfl p2
 refine G (R 5 rfl (WL.yv (LJ.Y.oneq rfl rfl rfl (by kernel_rfl) (by kernel_rfl)) rfl rfl rfl (NQ (Wd rfl H (fun H=>?_) (fun H=>?_)))))
 ·exact aO H
 refine Wk ?_
 cases H
 exact Ends.auton rfl rfl rfl p2
theorem jx (n0 n1:Nat) (hn:cJ [n0,n1]=true) (a0:aK) {r:aK} (H:cV a0=some r):LJ.Spec Tryz.prog 85 [.ptr n0 0] [(n0, .box 109 [.optp a0.addr n0 0, .own n1]),(n1, .row 5 1 (bG a0.buf))] (.tup []) [(n1, .row 5 1 (bG r.buf)),(n0, .box 109 [.optp r.addr n0 0, .own n1])]:=
 Spec.names [n0,n1] hn rfl rfl (jw a0 H)
theorem jy:aF Tryz.prog 85 Tryz.f85:=⟨Tryz.func85,rfl,by kernel_rfl⟩
theorem iZ (a0:aK) (a1:ByteArray) {r:Int×Unit×aK} (H:bg a0 a1=some r):LJ.Spec Tryz.prog 51 [.ptr 0 0, .d (.str a1)] [(0, .box 109 [.optp a0.addr 0 0, .own 1]),(1, .row 5 1 (bG a0.buf))] (.tup [.d (.int .i64 r.1), .d (.nili)]) [(1, .row 5 1 (bG r.2.2.buf)),(0, .box 109 [.optp r.2.2.addr 0 0, .own 1])]:=by
 refine LJ.Spec.code Tryz.func51 rfl 19 rfl rfl [0] rfl fun w0 F0 S0 B0=>?_
 unfold bg at H
 refine G (R 2 rfl (N (R 1 rfl ?_)))
 obtain ⟨x1,hx1,H⟩:=an H
 refine Cl [1] (jx 0 1 rfl _ hx1) jy rfl p2 rfl (N (R 6 rfl ?_))
 obtain ⟨g2,H⟩:=ay H
 refine WL.apps tk Es rfl rfl rfl (zU (bQ g2)) (WL.row 1 (bG (x1.buf++a1)) rfl (oB _ _).symm rfl (R 2 rfl (Ef 0 rfl (N (R 4 rfl (NQ (Wt ?_)))))))
 cases H
 exact Ea rfl rfl rfl p2
theorem bT (n0 n1:Nat) (hn:cJ [n0,n1]=true) (a0:aK) (a1:ByteArray) {r:Int×Unit×aK} (H:bg a0 a1=some r):LJ.Spec Tryz.prog 51 [.ptr n0 0, .d (.str a1)] [(n0, .box 109 [.optp a0.addr n0 0, .own n1]),(n1, .row 5 1 (bG a0.buf))] (.tup [.d (.int .i64 r.1), .d (.nili)]) [(n1, .row 5 1 (bG r.2.2.buf)),(n0, .box 109 [.optp r.2.2.addr n0 0, .own n1])]:=
 Spec.names [n0,n1] hn rfl rfl (iZ a0 a1 H)
theorem bU:aF Tryz.prog 51 Tryz.f51:=⟨Tryz.func51,rfl,by kernel_rfl⟩
theorem yX (a0:List ab) (a1:List (List af)) {r:ByteArray×Int} (H:sI a0 a1=some r):LJ.Spec Tryz.prog 53 [.d (slT ai a0), .d (slT aG a1)] [] (.tup [.d (.str r.1), .d (.int .i64 r.2)]) []:=by
 refine LJ.Spec.code Tryz.func53 rfl 63 rfl rfl [] rfl fun w0 F0 S0 B0=>?_
 unfold sI at H
 refine G (R 2 rfl (NS (G (R 2 rfl ?_))))
 obtain ⟨x1,hx1,H⟩:=an H
 refine Cl [] (lD _ _ hx1) lF rfl tv rfl (R 1 rfl (N (R 2 rfl (NQ (Wd rfl H (fun H=>?_) (fun H=>?_))))))
 ·refine G (R 3 rfl (NQ (Wt (QT.r ?_))))
  cases H
  exact Ea rfl rfl rfl tv
 refine Wk (Qn (G (R 1 rfl (Ef 119 rfl (R 1 rfl (N (R 4 rfl (WL.nilF 119 0 4190 5 1 rfl (WL.row 4190 (bG ByteArray.empty) rfl rfl rfl ?_)))))))))
 obtain ⟨x3,hx3,H⟩:=an H
 refine Cl [4190] (bA 119 4190 rfl _ _ hx3) bB rfl p2 rfl (NS (G (R 3 rfl (NQ (Wb (Wl (ι:= {x:Nat×(Int×ByteArray) //kF a1 x.1 x.2=some r}) (fun x=>[(7, .ptr 119 0),(25, .d (slT aG a1)),(26, .d (.int .i64 (a1.length:Int))),(27, .d (.int .i64 x.1.2.1))]) (fun x=>[(119, .box 59 [.own 4190]),(4190, .row 5 1 (bG x.1.2.2))]) (fun x=>x.1.1) ⟨(fuel,(0,x3.b)),H⟩ (Lm p4 p2) fun x=>?_))))))
 obtain ⟨⟨k5,s4⟩,H⟩:=x
 rcases k5 with _ | k5
 ·exact aO H
 rw [kF] at H
 refine G (R 1 rfl (NS (Wd rfl H (fun H=>?_) (fun H=>?_))))
 ·refine Wk (Qn ?_)
  obtain ⟨K7,hK7,H⟩:=db H
  refine WC.cut (fun E m=>∃ s8:ByteArray,K7 s8=some r∧iA E m [(7, .ptr 119 0),(25, .d (slT aG a1)),(26, .d (.int .i64 (a1.length:Int))),(27, .d (.int .i64 s4.1))] [(119, .box 59 [.own 4190]),(4190, .row 5 1 (bG s8))]) ?_ ?_
  ·refine Wb (G ?_)
   obtain ⟨g9,H⟩:=ay H
   refine RS 3 rfl ⟨⟨(al g9).1,(al g9).2,rfl⟩,tv⟩ (N (R 4 rfl ?_))
   obtain ⟨x10,hx10,H⟩:=an H
   refine Cl [4190] (bA 119 4190 rfl _ _ hx10) bB rfl p2 rfl (N (R 3 rfl (NQ (Wb (Wl (ι:= {x:Nat×(Int×ByteArray) //iG a1 s4 K7 x.1 x.2=some r}) (fun x=>[(7, .ptr 119 0),(25, .d (slT aG a1)),(26, .d (.int .i64 (a1.length:Int))),(27, .d (.int .i64 s4.1)),(36, .d (slT bE (a1.getD s4.1.toNat default))),(37, .d (.int .i64 ((a1.getD s4.1.toNat default).length:Int))),(38, .d (.int .i64 x.1.2.1))]) (fun x=>[(119, .box 59 [.own 4190]),(4190, .row 5 1 (bG x.1.2.2))]) (fun x=>x.1.1) ⟨(fuel,(0,x10.b)),H⟩ (Lm p7 p2) fun x=>?_)))))
   obtain ⟨⟨k12,s11⟩,H⟩:=x
   rcases k12 with _ | k12
   ·exact aO H
   rw [iG] at H
   refine G (R 1 rfl (NS (Wd rfl H (fun H=>?_) (fun H=>?_))))
   ·refine Wk (Qn (Ws (Wb (G ?_))))
    obtain ⟨g14,H⟩:=ay H
    refine RS 2 rfl ⟨⟨(al g14).1,(al g14).2,rfl⟩,tv⟩ (Wa 111 tk rfl rfl rfl (Ef 0 rfl (N (R 3 rfl ?_))))
    obtain ⟨x15,hx15,H⟩:=an H
    refine Cl [4190] (fU 119 4190 rfl _ _ hx15) fV rfl p2 rfl (N (R 4 rfl ?_))
    obtain ⟨x16,hx16,H⟩:=an H
    refine Cl [4190] (bA 119 4190 rfl _ _ hx16) bB rfl p2 rfl (N (R 2 rfl ?_))
    obtain ⟨x17,hx17,H⟩:=an H
    refine Cl [] (bt _ hx17) bu rfl tv rfl (NQ (Wd rfl H (fun H=>?_) (fun H=>?_)))
    ·refine Wg (R 4 rfl ?_)
     obtain ⟨x19,hx19,H⟩:=an H
     refine Cl [4190] (bA 119 4190 rfl _ _ hx19) bB rfl p2 rfl (Wn (Qb (Qn ?_)))
     exact Wg (R 2 rfl (NQ (⟨⟨(k12,(IntKind.i64.wrap (s11.1+1),x19.b)),H⟩,Z,Lm p7 p2⟩)))
    refine Wk (Qb (Qn ?_))
    exact Wg (R 2 rfl (NQ (⟨⟨(k12,(IntKind.i64.wrap (s11.1+1),x16.b)),H⟩,Z,Lm p7 p2⟩)))
   refine WC.exit (Qx (Qx (Qh (Qb (Qn ?_)))))
   exact ⟨s11.2,H,Lw q4 p2⟩
  ·rintro E m ⟨s8,H,hl⟩
   refine WC.lessW hl ?_
   replace H:=(hK7 _).symm.trans H
   try dsimp only at H
   exact Wg (R 2 rfl (NQ (⟨⟨(k5,(IntKind.i64.wrap (s4.1+1),s8)),H⟩,Z,Lm p4 p2⟩)))
 refine WC.exit (Qx (Qx (Qh (Qn ?_))))
 refine G (R 1 rfl ?_)
 obtain ⟨x20,hx20,H⟩:=an H
 refine Cl [4190] (eP 119 4190 rfl _ hx20) eR rfl p2 rfl (R 2 rfl (NQ (Wt ?_)))
 cases H
 exact Ea rfl rfl rfl tv
theorem yY:aF Tryz.prog 53 Tryz.f53:=⟨Tryz.func53,rfl,by kernel_rfl⟩
theorem A9 (a0:ar) {r:ByteArray×Int} (H:vI a0=some r):LJ.Spec Tryz.prog 54 [.d (.agg [.int .i64 a0.Op, .int .i64 a0.A, .int .i64 a0.B])] [] (.tup [.d (.str r.1), .d (.int .i64 r.2)]) []:=by
 refine LJ.Spec.code Tryz.func54 rfl 51 rfl rfl [] rfl fun w0 F0 S0 B0=>?_
 unfold vI at H
 refine G (Ef 101 rfl (R 2 rfl (NS (G (R 1 rfl ?_)))))
 obtain ⟨x1,hx1,H⟩:=an H
 refine Cl [] (mz _ hx1) mA rfl tv rfl (R 1 rfl (N (R 2 rfl (NQ (Wd rfl H (fun H=>?_) (fun H=>?_))))))
 ·refine G (R 3 rfl (NQ (Wt (QT.r ?_))))
  cases H
  exact Ea rfl rfl rfl tv
 refine Wk (Qn (Ws ?_))
 obtain ⟨x4_4_1,hx4_4_1,H⟩:=an H
 refine WC.heldF [(1, .ptr 101 0),(5, .ptr 115 0),(6, .d (.str x4_4_1)),(7, .ptr 107 0)] [(101, .box 100 [.d (.int .i64 a0.Op), .d (.int .i64 a0.A), .d (.int .i64 a0.B)]),(107, .box 161 [.d (.int .i64 a0.A), .d (.int .i64 a0.B)]),(115, .box 59 [.d (.nils)])] (sT 0 (sT 2 (sT 3 (sT 5 (sT 6 (sT 7 (sT 8 (sT 9 (fk (sf 1 (fk (sf 4 (sf 10 (sT 11 (sT 12 (sf 13 sd))))) (sf 10 (sf 4 (sT 11 (sT 12 (sf 13 sd))))))) (fk (sf 4 (fk (sf 1 (sf 10 (sT 11 (sT 12 (sf 13 sd))))) (sf 10 (sf 1 (sT 11 (sT 12 (sf 13 sd))))))) (sf 10 (fk (sf 1 (sf 4 (sT 11 (sT 12 (sf 13 sd))))) (sf 4 (sf 1 (sT 11 (sT 12 (sf 13 sd))))))))))))))))) [101] [101] rfl (by kernel_rfl) rfl (by kernel_rfl) rfl rfl (fun _ h=>h) rfl rfl rfl (fun FK NK wK K=>?_) ?_
 ·refine Hr 7 tk rfl rfl rfl rfl tv (WH.yv rfl (LJ.Y.buildArr 2 [.int .i64 0, .int .i64 0] [.int .i64 a0.A, .int .i64 a0.B] (by kernel_rfl) (by kernel_rfl) rfl rfl rfl) rfl rfl rfl (WH.fork ?_ (WH.fork ?_ ?_)))
  ·refine He 115 tk ek rfl rfl rfl rfl tv rfl rfl (WH.fork ?_ ?_)
   ·exact WH.call [] rfl (gK _ hx4_4_1) gL rfl rfl tv rfl rfl rfl rfl rfl (WH.allocZ 107 [.int .i64 0, .int .i64 0] rfl rfl (by kernel_rfl) rfl rfl rfl rfl rfl rfl (WH.mv rfl rfl rfl rfl rfl rfl rfl rfl rfl (Hr 1 tk rfl rfl rfl rfl tv (He 0 tk ek rfl rfl rfl rfl tv rfl rfl (Hn rfl (Lw q4 p3))))))
   ·exact WH.allocZ 107 [.int .i64 0, .int .i64 0] rfl rfl (by kernel_rfl) rfl rfl rfl rfl rfl rfl (WH.call [] rfl (gK _ hx4_4_1) gL rfl rfl tv rfl rfl rfl rfl rfl (WH.mv rfl rfl rfl rfl rfl rfl rfl rfl rfl (Hr 1 tk rfl rfl rfl rfl tv (He 0 tk ek rfl rfl rfl rfl tv rfl rfl (Hn rfl (Lw q4 p3))))))
  ·refine WH.call [] rfl (gK _ hx4_4_1) gL rfl rfl tv rfl rfl rfl rfl rfl (WH.fork ?_ ?_)
   ·exact He 115 tk ek rfl rfl rfl rfl tv rfl rfl (WH.allocZ 107 [.int .i64 0, .int .i64 0] rfl rfl (by kernel_rfl) rfl rfl rfl rfl rfl rfl (WH.mv rfl rfl rfl rfl rfl rfl rfl rfl rfl (Hr 1 tk rfl rfl rfl rfl tv (He 0 tk ek rfl rfl rfl rfl tv rfl rfl (Hn rfl (Lw q4 p3))))))
   ·exact WH.allocZ 107 [.int .i64 0, .int .i64 0] rfl rfl (by kernel_rfl) rfl rfl rfl rfl rfl rfl (He 115 tk ek rfl rfl rfl rfl tv rfl rfl (WH.mv rfl rfl rfl rfl rfl rfl rfl rfl rfl (Hr 1 tk rfl rfl rfl rfl tv (He 0 tk ek rfl rfl rfl rfl tv rfl rfl (Hn rfl (Lw q4 p3))))))
  ·refine WH.allocZ 107 [.int .i64 0, .int .i64 0] rfl rfl (by kernel_rfl) rfl rfl rfl rfl rfl rfl (WH.fork ?_ ?_)
   ·exact He 115 tk ek rfl rfl rfl rfl tv rfl rfl (WH.call [] rfl (gK _ hx4_4_1) gL rfl rfl tv rfl rfl rfl rfl rfl (WH.mv rfl rfl rfl rfl rfl rfl rfl rfl rfl (Hr 1 tk rfl rfl rfl rfl tv (He 0 tk ek rfl rfl rfl rfl tv rfl rfl (Hn rfl (Lw q4 p3))))))
   ·exact WH.call [] rfl (gK _ hx4_4_1) gL rfl rfl tv rfl rfl rfl rfl rfl (He 115 tk ek rfl rfl rfl rfl tv rfl rfl (WH.mv rfl rfl rfl rfl rfl rfl rfl rfl rfl (Hr 1 tk rfl rfl rfl rfl tv (He 0 tk ek rfl rfl rfl rfl tv rfl rfl (Hn rfl (Lw q4 p3))))))
 ·refine Qn (G (R 3 rfl (WL.nilF 115 0 4150 5 1 rfl (WL.row 4150 (bG ByteArray.empty) rfl rfl rfl ?_))))
  obtain ⟨x3,hx3,H⟩:=an H
  refine Cl [4150] (fU 115 4150 rfl _ _ hx3) fV rfl p2 rfl (NS (G (R 3 rfl (NQ (Wb (Wl (ι:= {x:Nat×(Int×ByteArray) //j9 a0 x4_4_1 x.1 x.2=some r}) (fun x=>[(5, .ptr 115 0),(6, .d (.str x4_4_1)),(7, .ptr 107 0),(29, .d (.int .i64 (x4_4_1.size:Int))),(30, .d (.int .i64 x.1.2.1))]) (fun x=>[(107, .box 161 [.d (.int .i64 a0.A), .d (.int .i64 a0.B)]),(115, .box 59 [.own 4150]),(4150, .row 5 1 (bG x.1.2.2))]) (fun x=>x.1.1) ⟨(fuel,(0,x3.b)),H⟩ (Lm p5 p3) fun x=>?_))))))
  obtain ⟨⟨k5,s4⟩,H⟩:=x
  rcases k5 with _ | k5
  ·exact aO H
  rw [j9] at H
  refine G (R 1 rfl (NS (Wd rfl H (fun H=>?_) (fun H=>?_))))
  ·refine Wk (Qn (Ws (Wb (G (R 2 rfl (NS (Wg ?_)))))))
   obtain ⟨g7,H⟩:=ay H
   refine RS 4 rfl ⟨(al g7),tv⟩ (NQ (Wd rfl H (fun H=>?_) (fun H=>?_)))
   ·refine Wg (R 2 rfl ?_)
    obtain ⟨g9,H⟩:=ay H
    refine WL.yv (LJ.Y.idxPtrA 2 s4.1 (by kernel_rfl) rfl rfl rfl (al g9)) rfl rfl rfl (WL.yv (LJ.Y.loadPtrA 2 0 (fun k=> .int .i64 (([a0.A,a0.B]:List Int).getD k default)) s4.1 rfl rfl rfl (by kernel_rfl) rfl (al g9)) rfl rfl rfl ?_)
    obtain ⟨x10,hx10,H⟩:=an H
    refine Cl [4150] (gM 115 4150 rfl _ _ hx10) gN rfl p2 rfl (Wn (Qb (Qn ?_)))
    exact Wg (R 2 rfl (NQ (⟨⟨(k5,(IntKind.i64.wrap (s4.1+1),x10.b)),H⟩,Z,Lm p5 p3⟩)))
   refine Wg (R 2 rfl ?_)
   obtain ⟨g11,H⟩:=ay H
   refine WL.yv (LJ.Y.idxPtrA 2 s4.1 (by kernel_rfl) rfl rfl rfl (al g11)) rfl rfl rfl (WL.yv (LJ.Y.loadPtrA 2 0 (fun k=> .int .i64 (([a0.A,a0.B]:List Int).getD k default)) s4.1 rfl rfl rfl (by kernel_rfl) rfl (al g11)) rfl rfl rfl (R 1 rfl ?_))
   obtain ⟨x12,hx12,H⟩:=an H
   refine Cl [4150] (bA 115 4150 rfl _ _ hx12) bB rfl p2 rfl (Wn (Qb (Qn ?_)))
   exact Wg (R 2 rfl (NQ (⟨⟨(k5,(IntKind.i64.wrap (s4.1+1),x12.b)),H⟩,Z,Lm p5 p3⟩)))
  refine WC.exit (Qx (Qx (Qh (Qn ?_))))
  refine G (R 1 rfl ?_)
  obtain ⟨x13,hx13,H⟩:=an H
  refine Cl [4150] (eP 115 4150 rfl _ hx13) eR rfl p2 rfl (R 2 rfl (NQ (Wt ?_)))
  cases H
  exact Ea rfl rfl rfl tv
theorem Ba:aF Tryz.prog 54 Tryz.f54:=⟨Tryz.func54,rfl,by kernel_rfl⟩
def ρb:Go.Shelf.Ren:=⟨fun n=>cond (Nat.beq n 169) 55 0,fun n=>cond (Nat.beq n 127) 162 (cond (Nat.beq n 72) 109 (cond (Nat.beq n 70) 107 (cond (Nat.beq n 37) 57 (cond (Nat.beq n 9) 9 (cond (Nat.beq n 5) 5 (cond (Nat.beq n 3) 3 (cond (Nat.beq n 0) 0 (0)))))))),fun _=>0⟩
set_option maxRecDepth 100000 in
theorem Dx:Go.Proofs.Lays.n169 Tryz.prog ρb:=by
 constructor <;> first | kernel_rfl | (intro w;kernel_rfl) | (intro w;rfl)
theorem Eu:Go.Proofs.Builder.Extra Tryz.prog ρb:=by
 constructor <;> first | kernel_rfl | (intro w;kernel_rfl) | (intro w;rfl) | decide | (constructor <;> kernel_rfl)
theorem km (a0:aK) {r:ByteArray} (H:dE a0=some r):LJ.Spec Tryz.prog 55 [.ptr 0 0] [(0, .box 109 [.optp a0.addr 0 0, .own 1]),(1, .row 5 1 (bG a0.buf))] (.d (.str r)) []:=by
 unfold dE at H
 cases H
 exact Spec.bldAny Dx Eu
theorem ko (n0 n1:Nat) (hn:cJ [n0,n1]=true) (a0:aK) {r:ByteArray} (H:dE a0=some r):LJ.Spec Tryz.prog 55 [.ptr n0 0] [(n0, .box 109 [.optp a0.addr n0 0, .own n1]),(n1, .row 5 1 (bG a0.buf))] (.d (.str r)) []:=
 Spec.names [n0,n1] hn rfl rfl (km a0 H)
theorem kp:aF Tryz.prog 55 Tryz.f55:=⟨Tryz.func55,rfl,by kernel_rfl⟩
theorem yZ (a0:ah) {r:ByteArray×Int} (H:sJ a0=some r):LJ.Spec Tryz.prog 22 [.d (.agg [slT ai a0.Decls,slT aa a0.Waits,slT ak a0.Funcs])] [] (.tup [.d (.str r.1), .d (.int .i64 r.2)]) []:=by
 refine LJ.Spec.code Tryz.func22 rfl 96 rfl rfl [] rfl fun w0 F0 S0 B0=>?_
 unfold sJ at H
 refine G (Ef 101 rfl (R 2 rfl (NS (G (R 1 rfl ?_)))))
 obtain ⟨x1,hx1,H⟩:=an H
 refine Cl [] (lG _ hx1) lH rfl tv rfl (R 1 rfl (N (R 2 rfl (NQ (Wd rfl H (fun H=>?_) (fun H=>?_))))))
 ·refine G (R 3 rfl (NQ (Wt (QT.r ?_))))
  cases H
  exact Ea rfl rfl rfl tv
 refine Wk (Qn (G (Wa 105 tk rfl rfl rfl (WL.nilP 105 0 105 rfl (WL.nilF 105 1 4051 5 1 rfl (WL.row 4051 (bG ByteArray.empty) rfl rfl rfl (N (R 2 rfl ?_))))))))
 obtain ⟨x3,hx3,H⟩:=an H
 refine Cl [] (yV _ hx3) yW rfl tv rfl (R 5 rfl (NS (Wg ?_)))
 obtain ⟨g4,H⟩:=ay H
 refine RS 5 rfl ⟨(qi g4),tv⟩ ?_
 obtain ⟨x5,hx5,H⟩:=an H
 refine Cl [] (kj _ hx5) kl rfl tv rfl ?_
 obtain ⟨g6,H⟩:=ay H
 refine RS 1 rfl ⟨(qi g6),tv⟩ ?_
 obtain ⟨x7,hx7,H⟩:=an H
 refine Cl [4051] (bT 105 4051 rfl _ _ hx7) bU rfl p2 rfl (NS (G (R 4 rfl (NQ (Wb (Wl (ι:= {x:Nat×(Int×Bool×ByteArray) //kG a0 x.1 x.2=some r}) (fun x=>[(1, .ptr 101 0),(5, .ptr 105 0),(38, .d (slT aa a0.Waits)),(39, .d (.int .i64 (a0.Waits.length:Int))),(40, .d (.int .i64 x.1.2.1))]) (fun x=>[(101, .box 28 [.d (slT ai a0.Decls), .d (slT aa a0.Waits), .d (slT ak a0.Funcs)]),(105, .box 109 [.optp x.1.2.2.1 105 0, .own 4051]),(4051, .row 5 1 (bG x.1.2.2.2))]) (fun x=>x.1.1) ⟨(fuel,(0,x7.2.2.addr,x7.2.2.buf)),H⟩ (Lm p5 p3) fun x=>?_))))))
 obtain ⟨⟨k9,s8⟩,H⟩:=x
 rcases k9 with _ | k9
 ·exact aO H
 rw [kG] at H
 refine G (R 1 rfl (NS (Wd rfl H (fun H=>?_) (fun H=>?_))))
 ·refine Wk (Qn (Ws (Wb (G ?_))))
  obtain ⟨g11,H⟩:=ay H
  refine RS 3 rfl ⟨⟨(al g11).1,(al g11).2,rfl⟩,tv⟩ (N (R 3 rfl ?_))
  obtain ⟨x12,hx12,H⟩:=an H
  refine Cl [] (yX _ _ hx12) yY rfl tv rfl (R 5 rfl (NQ (Wg (R 1 rfl ?_))))
  obtain ⟨x13,hx13,H⟩:=an H
  refine Cl [4051] (bT 105 4051 rfl _ _ hx13) bU rfl p2 rfl (Wn (Qb (Qn ?_)))
  exact Wg (R 2 rfl (NQ (⟨⟨(k9,(IntKind.i64.wrap (s8.1+1),x13.2.2.addr,x13.2.2.buf)),H⟩,Z,Lm p5 p3⟩)))
 refine WC.exit (Qx (Qx (Qh (Qn ?_))))
 refine G (R 3 rfl ?_)
 obtain ⟨x14,hx14,H⟩:=an H
 refine Cl [] (kj _ hx14) kl rfl tv rfl ?_
 obtain ⟨x15,hx15,H⟩:=an H
 refine Cl [4051] (bT 105 4051 rfl _ _ hx15) bU rfl p2 rfl (NS (G (R 4 rfl (NQ (Wb (Wl (ι:= {x:Nat×(Int×Bool×ByteArray) //jL a0 x.1 x.2=some r}) (fun x=>[(5, .ptr 105 0),(60, .d (slT ak a0.Funcs)),(61, .d (.int .i64 (a0.Funcs.length:Int))),(62, .d (.int .i64 x.1.2.1))]) (fun x=>[(105, .box 109 [.optp x.1.2.2.1 105 0, .own 4051]),(4051, .row 5 1 (bG x.1.2.2.2))]) (fun x=>x.1.1) ⟨(fuel,(0,x15.2.2.addr,x15.2.2.buf)),H⟩ (Lm p4 p2) fun x=>?_))))))
 obtain ⟨⟨k17,s16⟩,H⟩:=x
 rcases k17 with _ | k17
 ·exact aO H
 rw [jL] at H
 refine G (R 1 rfl (NS (Wd rfl H (fun H=>?_) (fun H=>?_))))
 ·refine Wk (Qn ?_)
  obtain ⟨K19,hK19,H⟩:=db H
  refine WC.cut (fun E m=>∃ s20:Bool×ByteArray,K19 s20=some r∧iA E m [(5, .ptr 105 0),(60, .d (slT ak a0.Funcs)),(61, .d (.int .i64 (a0.Funcs.length:Int))),(62, .d (.int .i64 s16.1))] [(105, .box 109 [.optp s20.1 105 0, .own 4051]),(4051, .row 5 1 (bG s20.2))]) ?_ ?_
  ·refine Wb (G ?_)
   obtain ⟨g21,H⟩:=ay H
   refine RS 2 rfl ⟨⟨(al g21).1,(al g21).2,rfl⟩,tv⟩ (Wa 113 tk rfl rfl rfl (Ef 0 rfl (NS (Hp (.one 0 true (.one 1 true (.one 3 true (.one 4 true (.one 7 true (.one 8 true (.one 9 true (.one 2 false (.one 5 false (.one 6 true (.one 10 false (.one 11 true (.one 12 false .done))))))))))))) [105,113] [113] rfl (by kernel_rfl) rfl (by kernel_rfl) rfl rfl (fun _ h=>h) rfl rfl rfl (fun _ _ _ h=>h) fun FK NK wK K=>(Hr 7 tk rfl rfl rfl rfl tv ?_)))))
   obtain ⟨x22,hx22,H⟩:=an H
   refine WH.call [] rfl (kj _ hx22) kl rfl rfl tv rfl rfl rfl rfl rfl ?_
   obtain ⟨x23,hx23,H⟩:=an H
   refine WH.call [] rfl (kj _ hx23) kl rfl rfl tv rfl rfl rfl rfl rfl ?_
   obtain ⟨g24,H⟩:=ay H
   refine Hr 1 tk rfl rfl rfl rfl ⟨(qi g24),tv⟩ ?_
   obtain ⟨x25,hx25,H⟩:=an H
   refine WH.call [] rfl (kj _ hx25) kl rfl rfl tv rfl rfl rfl rfl rfl ?_
   obtain ⟨g26,H⟩:=ay H
   refine Hr 1 tk rfl rfl rfl rfl ⟨(qi g26),tv⟩ ?_
   obtain ⟨x27,hx27,H⟩:=an H
   refine WH.call [4051] rfl (bT 105 4051 rfl _ _ hx27) bU rfl rfl p2 rfl rfl rfl rfl rfl (WH.nil rfl (Qn (G (R 4 rfl (NQ (Wb (Wl (ι:= {x:Nat×(Int×Bool×ByteArray) //jK a0 s16 K19 x.1 x.2=some r}) (fun x=>[(5, .ptr 105 0),(60, .d (slT ak a0.Funcs)),(61, .d (.int .i64 (a0.Funcs.length:Int))),(62, .d (.int .i64 s16.1)),(80, .d (slT aE ((a0.Funcs.getD s16.1.toNat default).Code))),(81, .d (.int .i64 (((a0.Funcs.getD s16.1.toNat default).Code).length:Int))),(82, .d (.int .i64 x.1.2.1))]) (fun x=>[(105, .box 109 [.optp x.1.2.2.1 105 0, .own 4051]),(4051, .row 5 1 (bG x.1.2.2.2))]) (fun x=>x.1.1) ⟨(fuel,(0,x27.2.2.addr,x27.2.2.buf)),H⟩ (Lm p7 p2) fun x=>?_)))))))
   obtain ⟨⟨k29,s28⟩,H⟩:=x
   rcases k29 with _ | k29
   ·exact aO H
   rw [jK] at H
   refine G (R 1 rfl (NS (Wd rfl H (fun H=>?_) (fun H=>?_))))
   ·refine Wk (Qn (Ws (Wb (G ?_))))
    obtain ⟨g31,H⟩:=ay H
    refine RS 2 rfl ⟨⟨(al g31).1,(al g31).2,rfl⟩,tv⟩ (Wa 115 tk rfl rfl rfl (Ef 0 rfl (N (R 1 rfl ?_))))
    obtain ⟨x32,hx32,H⟩:=an H
    refine Cl [] (A9 _ hx32) Ba rfl tv rfl (R 5 rfl (NQ (Wg (R 1 rfl ?_))))
    obtain ⟨x33,hx33,H⟩:=an H
    refine Cl [4051] (bT 105 4051 rfl _ _ hx33) bU rfl p2 rfl (Wn (Qb (Qn ?_)))
    exact Wg (R 2 rfl (NQ (⟨⟨(k29,(IntKind.i64.wrap (s28.1+1),x33.2.2.addr,x33.2.2.buf)),H⟩,Z,Lm p7 p2⟩)))
   refine WC.exit (Qx (Qx (Qh (Qb (Qn ?_)))))
   exact ⟨(s28.2.1,s28.2.2),H,Lw q4 p2⟩
  ·rintro E m ⟨s20,H,hl⟩
   refine WC.lessW hl ?_
   replace H:=(hK19 _).symm.trans H
   try dsimp only at H
   exact Wg (R 2 rfl (NQ (⟨⟨(k17,(IntKind.i64.wrap (s16.1+1),s20.1,s20.2)),H⟩,Z,Lm p4 p2⟩)))
 refine WC.exit (Qx (Qx (Qh (Qn ?_))))
 refine G ?_
 obtain ⟨x34,hx34,H⟩:=an H
 refine Cl [] (ko 105 4051 rfl _ hx34) kp rfl p2 rfl (R 2 rfl (NQ (Wt ?_)))
 cases H
 exact Ea rfl rfl rfl tv
theorem y3:aF Tryz.prog 22 Tryz.f22:=⟨Tryz.func22,rfl,by kernel_rfl⟩
theorem px (a0:aD) (a1:ByteArray) {r:aD} (H:iq a0 a1=some r):LJ.Spec Tryz.prog 23 [.ptr 0 0, .d (.str a1)] [(0, .box 59 [.own 1]),(1, .row 5 1 (bG a0.b))] (.tup []) [(1, .row 5 1 (bG r.b)),(0, .box 59 [.own 1])]:=by
 refine LJ.Spec.code Tryz.func23 rfl 20 rfl rfl [0] rfl fun w0 F0 S0 B0=>?_
 unfold iq at H
 refine Ws (G (R 2 rfl (NQ (Wc rfl (fun h=>absurd h (by decide)) (fun h=>?_)))))
 refine Wk (Qn (G (R 4 rfl ?_)))
 obtain ⟨x1,hx1,H⟩:=an H
 refine Cl [1] (bA 0 1 rfl _ _ hx1) bB rfl p2 rfl (NQ (Wg (R 6 rfl ?_)))
 obtain ⟨g2,H⟩:=ay H
 refine WL.apps tk Es rfl rfl rfl (zU (bQ g2)) (WL.row 1 (bG (x1.b++a1)) rfl (oB _ _).symm rfl (R 2 rfl (Ef 0 rfl (Wn ?_))))
 cases H
 exact Ends.auton rfl rfl rfl p2
theorem py (n0 n1:Nat) (hn:cJ [n0,n1]=true) (a0:aD) (a1:ByteArray) {r:aD} (H:iq a0 a1=some r):LJ.Spec Tryz.prog 23 [.ptr n0 0, .d (.str a1)] [(n0, .box 59 [.own n1]),(n1, .row 5 1 (bG a0.b))] (.tup []) [(n1, .row 5 1 (bG r.b)),(n0, .box 59 [.own n1])]:=
 Spec.names [n0,n1] hn rfl rfl (px a0 a1 H)
theorem pz:aF Tryz.prog 23 Tryz.f23:=⟨Tryz.func23,rfl,by kernel_rfl⟩
theorem va (a0:aw) {r:ByteArray×Int} (H:jd a0=some r):LJ.Spec Tryz.prog 9 [.d (.agg [.int .i64 a0.Config.Mode, .int .i64 a0.Config.Workers, .int .i64 a0.Config.Quantum, .int .i64 a0.Config.Policy,slT ai a0.Program.Decls,slT aa a0.Program.Waits,slT ak a0.Program.Funcs,slT aC a0.Events])] [] (.tup [.d (.str r.1), .d (.int .i64 r.2)]) []:=by
 refine LJ.Spec.code Tryz.func9 rfl 86 rfl rfl [] rfl fun w0 F0 S0 B0=>?_
 unfold jd at H
 refine G (Ef 101 rfl (R 2 rfl (NS (G (R 1 rfl ?_)))))
 obtain ⟨x1,hx1,H⟩:=an H
 refine Cl [] (fN _ hx1) fO rfl tv rfl (R 1 rfl (N (R 2 rfl (NQ (Wd rfl H (fun H=>?_) (fun H=>?_))))))
 ·refine G (R 3 rfl (NQ (Wt (QT.r ?_))))
  cases H
  exact Ea rfl rfl rfl tv
 refine Wk (Qn (G (R 1 rfl (Ef 118 rfl (R 1 rfl (NS (G (R 12 rfl (Ef 131 rfl (WL.freezeT 131 aA ([a0.Config.Mode,a0.Config.Workers,a0.Config.Quantum,a0.Config.Policy]:List Int) rfl rfl rfl rfl (R 2 rfl (NQ (Wb (WC.nilF 118 0 4180 5 1 rfl (Wl (ι:= {x:Nat×(Int×ByteArray) //i7 a0 x.1 x.2=some r}) (fun x=>[(1, .ptr 101 0),(5, .ptr 118 0),(31, .d (slT aA ([a0.Config.Mode,a0.Config.Workers,a0.Config.Quantum,a0.Config.Policy]:List Int))),(32, .d (.int .i64 (([a0.Config.Mode,a0.Config.Workers,a0.Config.Quantum,a0.Config.Policy]:List Int).length:Int))),(33, .d (.int .i64 x.1.2.1))]) (fun x=>[(101, .box 31 [.d (.int .i64 a0.Config.Mode), .d (.int .i64 a0.Config.Workers), .d (.int .i64 a0.Config.Quantum), .d (.int .i64 a0.Config.Policy), .d (slT ai a0.Program.Decls), .d (slT aa a0.Program.Waits), .d (slT ak a0.Program.Funcs), .d (slT aC a0.Events)]),(118, .box 59 [.own 4180]),(4180, .row 5 1 (bG x.1.2.2))]) (fun x=>x.1.1) ⟨(fuel,(0,ByteArray.empty)),H⟩ (Lm p5 p3) fun x=>?_)))))))))))))))
 obtain ⟨⟨k5,s4⟩,H⟩:=x
 rcases k5 with _ | k5
 ·exact aO H
 rw [i7] at H
 refine G (R 1 rfl (NS (Wd rfl H (fun H=>?_) (fun H=>?_))))
 ·refine Wk (Qn (Ws (Wb (G ?_))))
  obtain ⟨g7,H⟩:=ay H
  refine RS 3 rfl ⟨⟨(al g7).1,(al g7).2,rfl⟩,tv⟩ (NQ (Wg (R 3 rfl ?_)))
  obtain ⟨x8,hx8,H⟩:=an H
  refine Cl [4180] (bA 118 4180 rfl _ _ hx8) bB rfl p2 rfl (Wn (Qb (Qn ?_)))
  exact Wg (R 2 rfl (NQ (⟨⟨(k5,(IntKind.i64.wrap (s4.1+1),x8.b)),H⟩,Z,Lm p5 p3⟩)))
 refine WC.exit (Qx (Qx (Qh (Qn ?_))))
 refine G (R 2 rfl ?_)
 obtain ⟨x9,hx9,H⟩:=an H
 refine Cl [] (yZ _ hx9) y3 rfl tv rfl (R 5 rfl (NS (G (R 2 rfl (NQ (Wd rfl H (fun H=>?_) (fun H=>?_)))))))
 ·refine G (R 3 rfl (NQ (Wt (QT.r ?_))))
  cases H
  exact Ea rfl rfl rfl tv
 refine Wk (Qn (G (R 2 rfl ?_)))
 obtain ⟨x11,hx11,H⟩:=an H
 refine Cl [4180] (py 118 4180 rfl _ _ hx11) pz rfl p2 rfl (N (R 5 rfl ?_))
 obtain ⟨x12,hx12,H⟩:=an H
 refine Cl [4180] (bA 118 4180 rfl _ _ hx12) bB rfl p2 rfl (NS (G (R 4 rfl (NQ (Wb (Wl (ι:= {x:Nat×(Int×ByteArray) //fK a0 x.1 x.2=some r}) (fun x=>[(5, .ptr 118 0),(61, .d (slT aC a0.Events)),(62, .d (.int .i64 (a0.Events.length:Int))),(63, .d (.int .i64 x.1.2.1))]) (fun x=>[(118, .box 59 [.own 4180]),(4180, .row 5 1 (bG x.1.2.2))]) (fun x=>x.1.1) ⟨(fuel,(0,x12.b)),H⟩ (Lm p4 p2) fun x=>?_))))))
 obtain ⟨⟨k14,s13⟩,H⟩:=x
 rcases k14 with _ | k14
 ·exact aO H
 rw [fK] at H
 refine G (R 1 rfl (NS (Wd rfl H (fun H=>?_) (fun H=>?_))))
 ·refine Wk (Qn (Ws (Wb (G ?_))))
  obtain ⟨g16,H⟩:=ay H
  refine RS 2 rfl ⟨⟨(al g16).1,(al g16).2,rfl⟩,tv⟩ (Wa 111 tk rfl rfl rfl (Ef 0 rfl (N (R 3 rfl ?_))))
  obtain ⟨x17,hx17,H⟩:=an H
  refine Cl [4180] (fU 118 4180 rfl _ _ hx17) fV rfl p2 rfl (N (R 3 rfl ?_))
  obtain ⟨x18,hx18,H⟩:=an H
  refine Cl [4180] (gM 118 4180 rfl _ _ hx18) gN rfl p2 rfl (N (R 3 rfl (NQ (Wd rfl H (fun H=>?_) (fun H=>?_)))))
  ·refine Wg (R 3 rfl ?_)
   obtain ⟨x20,hx20,H⟩:=an H
   refine Cl [4180] (gM 118 4180 rfl _ _ hx20) gN rfl p2 rfl (Wn (Qb (Qn ?_)))
   exact Wg (R 2 rfl (NQ (⟨⟨(k14,(IntKind.i64.wrap (s13.1+1),x20.b)),H⟩,Z,Lm p4 p2⟩)))
  refine Wk (Qb (Qn ?_))
  exact Wg (R 2 rfl (NQ (⟨⟨(k14,(IntKind.i64.wrap (s13.1+1),x18.b)),H⟩,Z,Lm p4 p2⟩)))
 refine WC.exit (Qx (Qx (Qh (Qn ?_))))
 refine G (R 1 rfl ?_)
 obtain ⟨x21,hx21,H⟩:=an H
 refine Cl [4180] (eP 118 4180 rfl _ hx21) eR rfl p2 rfl ?_
 obtain ⟨g22,H⟩:=ay H
 refine RS 3 rfl ⟨(qi g22),tv⟩ (NQ (Wt ?_))
 cases H
 exact Ea rfl rfl rfl tv
theorem vb:aF Tryz.prog 9 Tryz.f9:=⟨Tryz.func9,rfl,by kernel_rfl⟩
end Go.Proofs.YtdebndfaknfefaaGreatDoor.W
