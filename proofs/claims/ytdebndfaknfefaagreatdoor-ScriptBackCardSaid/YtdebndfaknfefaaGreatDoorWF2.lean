/- Each Go function comes to what its plain function gives, where that gives something. -/
import Derived.Test.YtdebndfaknfefaaGreatDoorPF
import Derived.Test.YtdebndfaknfefaaGreatDoorSq
import Derived.Test.YtdebndfaknfefaaGreatDoorWF1
import Derived.Test.YtdebndfaknfefaaGreatDoorXByt
import Derived.Test.YtdebndfaknfefaaGreatDoorXDef
import Derived.Test.YtdebndfaknfefaaGreatDoorXPan
import Derived.Test.YtdebndfaknfefaaGreatDoorXShelf
namespace Go.Proofs.YtdebndfaknfefaaGreatDoor.W
open Go Go.RowKit LJ
set_option linter.unusedVariables false
set_option linter.unusedSimpArgs false
set_option maxRecDepth 10000
theorem qy (a0:Int) (a1:Int) {r:Int} (H:fY a0 a1=some r):LJ.Spec Tryz.prog 130 [.d (.int .u64 a0), .d (.int .i64 a1)] [] (.d (.int .u64 r)) []:=by
 refine LJ.Spec.code Tryz.func130 rfl 9 rfl rfl [] rfl fun w0 F0 S0 B0=>?_
 unfold fY at H
 refine G (R 1 rfl (N (R 2 rfl ?_)))
 obtain ⟨x1,hx1,H⟩:=al H
 refine Cl [] (yI _ hx1) yJ rfl tv rfl (R 2 rfl (NQ (Wt ?_)))
 cases H
 exact Ea rfl rfl rfl tv
theorem qz:aD Tryz.prog 130 Tryz.f130:=⟨Tryz.func130,rfl,by kernel_rfl⟩
theorem nm (a0:Int) {r:Int} (H:eD a0=some r):LJ.Spec Tryz.prog 147 [.d (.int .u64 a0)] [] (.d (.int .i64 r)) []:=by
 refine LJ.Spec.code Tryz.func147 rfl 35 rfl rfl [] rfl fun w0 F0 S0 B0=>?_
 unfold eD at H
 refine G (R 1 rfl (N (R 7 rfl (N (R 7 rfl (N (R 6 rfl (N (R 5 rfl (N (R 5 rfl (N (R 5 rfl (N (R 4 rfl (NQ (Wt ?_)))))))))))))))))
 cases H
 exact Ea rfl rfl rfl tv
theorem nn:aD Tryz.prog 147 Tryz.f147:=⟨Tryz.func147,rfl,by kernel_rfl⟩
theorem oG (a0:Int) {r:Int} (H:gK a0=some r):LJ.Spec Tryz.prog 131 [.d (.int .u64 a0)] [] (.d (.int .i64 r)) []:=by
 refine LJ.Spec.code Tryz.func131 rfl 5 rfl rfl [] rfl fun w0 F0 S0 B0=>?_
 unfold gK at H
 refine G (R 1 rfl (N (R 1 rfl ?_)))
 obtain ⟨x1,hx1,H⟩:=al H
 refine Cl [] (nm _ hx1) nn rfl tv rfl (R 1 rfl (NQ (Wt ?_)))
 cases H
 exact Ea rfl rfl rfl tv
theorem oH:aD Tryz.prog 131 Tryz.f131:=⟨Tryz.func131,rfl,by kernel_rfl⟩
theorem yK (a0:List ai) (a1:List af) {r:Int} (H:mR a0 a1=some r):LJ.Spec Tryz.prog 107 [.d (slT ah a0), .d (slT bn a1)] [] (.d (.int .i64 r)) []:=by
 refine LJ.Spec.code Tryz.func107 rfl 52 rfl rfl [] rfl fun w0 F0 S0 B0=>?_
 unfold mR at H
 refine G (R 1 rfl (NS (G (R 3 rfl (NQ (Wd rfl H (fun H=>?_) (fun H=>?_)))))))
 ·refine G (R 1 rfl (NQ (Wt (QT.r ?_))))
  cases H
  exact Ea rfl rfl rfl tv
 refine Wk (Qn (Ws (G (R 3 rfl (NQ (Wd rfl H (fun H=>?_) (fun H=>?_)))))))
 ·refine G (R 1 rfl (NQ (Wt (QT.r ?_))))
  cases H
  exact Ea rfl rfl rfl tv
 refine Wk (Qn (G (R 2 rfl (NS (G (R 3 rfl (NQ (Wb (Wl (ι:= {x:Nat×(Int×Bool×Int) //fH a0 a1 x.1 x.2=some r}) (fun x=>[(0, .d (slT ah a0)),(1, .d (slT bn a1)),(5, .d (.int .u64 x.1.2.1)),(6, .d (.bool x.1.2.2.1)),(16, .d (slT bn a1)),(17, .d (.int .i64 (a1.length:Int))),(18, .d (.int .i64 x.1.2.2.2))]) (fun x=>[]) (fun x=>x.1.1) ⟨(fuel,(0,false,0)),H⟩ (Lm p7 tv) fun x=>?_)))))))))
 obtain ⟨⟨k4,s3⟩,H⟩:=x
 rcases k4 with _ | k4
 ·exact aP H
 rw [fH] at H
 refine G (R 1 rfl (NS (Wd rfl H (fun H=>?_) (fun H=>?_))))
 ·refine Wk (Qn (Ws (Wb (G ?_))))
  obtain ⟨g6,H⟩:=av H
  refine RS 2 rfl ⟨⟨(an g6).1,(an g6).2,rfl⟩,tv⟩ (Wa 108 tk rfl rfl rfl (Ef 0 rfl (NS (G (R 2 rfl ?_)))))
  obtain ⟨x7,hx7,H⟩:=al H
  refine Cl [] (yG _ _ hx7) yH rfl tv rfl (R 1 rfl (N (R 2 rfl (NQ (Wd rfl H (fun H=>?_) (fun H=>?_))))))
  ·refine G (R 2 rfl (NQ (Wt (QT.r (QB.r (QT.r (QT.r (QB.r (QT.r ?_)))))))))
   cases H
   exact Ea rfl rfl rfl tv
  refine Wk (Qn (G (R 3 rfl ?_)))
  obtain ⟨x9,hx9,H⟩:=al H
  refine Cl [] (qy _ _ hx9) qz rfl tv rfl (R 1 rfl (NQ (Wg (R 2 rfl (Wx 3 1 false tk sg0 rfl rfl (fun _=>tv) (RS 2 rfl ⟨by first | exact id | exact fun h=>by rw [h];rfl | simp_all,tv⟩ (Wn (Qb (Qn ?_)))))))))
  exact Wg (R 2 rfl (NQ (⟨⟨(k4,(x9,(s3.2.1||(iEq ((a1.getD s3.2.2.toNat default).Kind) 4)),IntKind.i64.wrap (s3.2.2+1))),H⟩,Z,Lm p7 tv⟩)))
 refine WC.exit (Qx (Qx (Qh (Qn ?_))))
 refine Ws (G (R 1 rfl ?_))
 obtain ⟨x10,hx10,H⟩:=al H
 refine Cl [] (oG _ hx10) oH rfl tv rfl (R 4 rfl (Wx 2 5 false tk sg0 rfl rfl (fun _=>tv) (Wx 3 7 true tk sg0 rfl rfl (fun _=>tv) (Wx 1 5 false tk sg0 rfl rfl (fun hb=>⟨by first | exact id | exact ⟨hb,fun h=>by rw [hb,h];rfl⟩ | exact ⟨hb,id⟩ | exact fun h=>by rw [hb,h];rfl | exact fun h=>by rw [h];rfl | simp_all,tv⟩) (RS 1 rfl ⟨by first | exact id | exact fun h=>by rw [h];rfl | simp_all,tv⟩ (NQ (Wd rfl H (fun H=>?_) (fun H=>?_))))))))
 ·refine G (R 1 rfl (NQ (Wt (QT.r ?_))))
  cases H
  exact Ea rfl rfl rfl tv
 refine Wk (Qn (G (R 1 rfl (NQ (Wt ?_)))))
 cases H
 exact Ea rfl rfl rfl tv
theorem yL:aD Tryz.prog 107 Tryz.f107:=⟨Tryz.func107,rfl,by kernel_rfl⟩
theorem kL (a0:List ai) (a1:List (List af)) {r:Int} (H:gA a0 a1=some r):LJ.Spec Tryz.prog 83 [.d (slT ah a0), .d (slT aC a1)] [] (.d (.int .i64 r)) []:=by
 refine LJ.Spec.code Tryz.func83 rfl 27 rfl rfl [] rfl fun w0 F0 S0 B0=>?_
 unfold gA at H
 refine G (R 1 rfl (NS (G (R 3 rfl (NQ (Wd rfl H (fun H=>?_) (fun H=>?_)))))))
 ·refine G (R 1 rfl (NQ (Wt (QT.r ?_))))
  cases H
  exact Ea rfl rfl rfl tv
 refine Wk (Qn (Ws (G (R 3 rfl (NQ (Wd rfl H (fun H=>?_) (fun H=>?_)))))))
 ·refine G (R 1 rfl (NQ (Wt (QT.r ?_))))
  cases H
  exact Ea rfl rfl rfl tv
 refine Wk (Qn (Ws (G (R 3 rfl (NQ (Wb (Wl (ι:= {x:Nat×Int //ej a0 a1 x.1 x.2=some r}) (fun x=>[(0, .d (slT ah a0)),(14, .d (slT aC a1)),(15, .d (.int .i64 (a1.length:Int))),(16, .d (.int .i64 x.1.2))]) (fun x=>[]) (fun x=>x.1.1) ⟨(fuel,0),H⟩ (Lm p4 tv) fun x=>?_)))))))
 obtain ⟨⟨k4,s3⟩,H⟩:=x
 rcases k4 with _ | k4
 ·exact aP H
 rw [ej] at H
 refine G (R 1 rfl (NS (Wd rfl H (fun H=>?_) (fun H=>?_))))
 ·refine Wk (Qn (Ws (Wb (G ?_))))
  obtain ⟨g6,H⟩:=av H
  refine RS 3 rfl ⟨⟨(an g6).1,(an g6).2,rfl⟩,tv⟩ (N (R 2 rfl ?_))
  obtain ⟨x7,hx7,H⟩:=al H
  refine Cl [] (yK _ _ hx7) yL rfl tv rfl (R 1 rfl (N (R 2 rfl (NQ (Wd rfl H (fun H=>?_) (fun H=>?_))))))
  ·refine G (R 2 rfl (NQ (Wt (QB.r (QT.r (QT.r (QB.r (QT.r ?_))))))))
   cases H
   exact Ea rfl rfl rfl tv
  refine Wk (Qb (Qn ?_))
  exact Wg (R 2 rfl (NQ (⟨⟨(k4,IntKind.i64.wrap (s3+1)),H⟩,Z,Lm p4 tv⟩)))
 refine WC.exit (Qx (Qx (Qh (Qn ?_))))
 refine G (R 1 rfl (NQ (Wt ?_)))
 cases H
 exact Ea rfl rfl rfl tv
theorem kM:aD Tryz.prog 83 Tryz.f83:=⟨Tryz.func83,rfl,by kernel_rfl⟩
theorem lj (a0:Int) {r:Bool} (H:jZ a0=some r):LJ.Spec Tryz.prog 111 [.d (.int .i64 a0)] [] (.d (.bool r)) []:=by
 refine LJ.Spec.code Tryz.func111 rfl 9 rfl rfl [] rfl fun w0 F0 S0 B0=>?_
 unfold jZ at H
 refine G (R 1 rfl (N (R 3 rfl (Wx 2 2 true tk sg0 rfl rfl (fun _=>tv) (RS 2 rfl ⟨by first | exact id | exact fun h=>by rw [h];rfl | simp_all,tv⟩ (NQ (Wt ?_)))))))
 cases H
 exact Ea rfl rfl rfl tv
theorem lk:aD Tryz.prog 111 Tryz.f111:=⟨Tryz.func111,rfl,by kernel_rfl⟩
theorem kg (a0:ByteArray) {r:List ByteArray} (H:eI a0=some r):LJ.Spec Tryz.prog 112 [.d (.str a0)] [] (.d (slT fq r)) []:=by
 refine LJ.Spec.code Tryz.func112 rfl 106 rfl rfl [] rfl fun w0 F0 S0 B0=>?_
 unfold eI at H
 refine G (R 1 rfl (N (R 1 rfl (N (R 1 rfl (N (R 1 rfl (NS (G (R 1 rfl (NQ (Wb (Wl (ι:= {x:Nat×(Int×Int×Int×Int) //ff a0 x.1 x.2=some r}) (fun x=>[(0, .d (.str a0)),(3, .d (.int .i64 x.1.2.1)),(4, .d (.int .i64 x.1.2.2.1)),(5, .d (.int .u8 x.1.2.2.2.1)),(6, .d (.int .i64 x.1.2.2.2.2))]) (fun x=>[]) (fun x=>x.1.1) ⟨(fuel,(0,1,0,0)),H⟩ (Lm p5 tv) fun x=>?_)))))))))))))
 obtain ⟨⟨k2,s1⟩,H⟩:=x
 rcases k2 with _ | k2
 ·exact aP H
 rw [ff] at H
 refine Ws (G (R 4 rfl (NQ (Wd rfl H (fun H=>?_) (fun H=>?_)))))
 ·refine Wk (Qn (Ws (Wb (G ?_))))
  obtain ⟨g4,H⟩:=av H
  refine RS 4 rfl ⟨(an g4),tv⟩ (N (R 4 rfl (N (R 1 rfl ?_))))
  obtain ⟨g5,H⟩:=av H
  refine WL.yv (LJ.Y.idxElpA 256 (fun k=> .int .u8 (aU.getD k default)) (bc a0 s1.2.2.2.toNat) (by kernel_rfl) rfl rfl rfl mg (an g5)) rfl rfl rfl (R 3 rfl (N (R 7 rfl (NQ (Wg (R 2 rfl (Wn (Qb (Qn ?_)))))))))
  exact Wg (R 3 rfl (NQ (⟨⟨(k2,(IntKind.i64.wrap (s1.1+(Go.bits .and .i64 s1.2.1 (Go.bits .xor .i64 (cond IntKind.i64.signed (-1) IntKind.i64.max) (IntKind.i64.wrap (aU.getD (bc a0 s1.2.2.2.toNat).toNat default))))),IntKind.i64.wrap (aU.getD (bc a0 s1.2.2.2.toNat).toNat default),Go.bits .or .u8 s1.2.2.1 (bc a0 s1.2.2.2.toNat),IntKind.i64.wrap (s1.2.2.2+1))),H⟩,Z,Lm p5 tv⟩)))
 refine WC.exit (Qx (Qx (Qh (Qn ?_))))
 refine Ws (G (R 2 rfl (NQ (Wd rfl H (fun H=>?_) (fun H=>?_)))))
 ·exact aP H
 refine Wk (Qn (G (R 1 rfl ?_)))
 obtain ⟨g7,H⟩:=av H
 refine WL.makeT (r:=141) fq (ByteArray.empty:ByteArray) s1.1 tk ek rfl rfl rfl rfl rfl rfl rfl (pD g7) rfl rfl rfl rfl (R 1 rfl (N (R 1 rfl (N (R 1 rfl (N (R 1 rfl (NQ ?_))))))))
 obtain ⟨K8,hK8,H⟩:=da H
 refine WC.cut (fun E m=>∃ s9:Int,K8 s9=some r∧hJ E m [(0, .d (.str a0)),(9, .own 141),(10, .d (.int .i64 0)),(12, .d (.int .i64 s9))] [(141, .row 9 1 ((List.replicate s1.1.toNat (ByteArray.empty:ByteArray)).map fq))]) ?_ ?_
 ·refine Wb (Wl (ι:= {x:Nat×Int //eR a0 K8 x.1 x.2=some r}) (fun x=>[(0, .d (.str a0)),(9, .own 141),(10, .d (.int .i64 0)),(12, .d (.int .i64 x.1.2))]) (fun x=>[(141, .row 9 1 ((List.replicate s1.1.toNat (ByteArray.empty:ByteArray)).map fq))]) (fun x=>x.1.1) ⟨(fuel,0),H⟩ (Lm p4 p1) fun x=>?_)
  obtain ⟨⟨k11,s10⟩,H⟩:=x
  rcases k11 with _ | k11
  ·exact aP H
  rw [eR] at H
  refine Ws (G (R 5 rfl (WL.split (g:=46) rfl (fun h12=>?_) (fun h12=>?_))))
  ·replace H:=of_t H h12
   obtain ⟨g13,H⟩:=av H
   refine WL.grun 3 4 true 46 tk sg0 rfl rfl rfl rfl ⟨(an g13),tv⟩ ?_
   obtain ⟨g14,H⟩:=av H
   refine WL.gyv (LJ.Y.idxElpA 256 (fun k=> .int .u8 (aU.getD k default)) (bc a0 s10.toNat) (by kernel_rfl) rfl rfl rfl mg (an g14)) rfl rfl rfl rfl rfl rfl (WL.grun 2 4 true 46 tk sg0 rfl rfl rfl rfl tv (WL.pickT rfl rfl rfl rfl rfl rfl (NQ (Wd rfl H (fun H=>?_) (fun H=>?_)))))
   ·refine Wk (Qn (Wb (Wg (R 3 rfl (Wn (Qb (Qn ?_)))))))
    exact ⟨⟨(k11,IntKind.i64.wrap (s10+1)),H⟩,Z,Lm p4 p1⟩
   refine WC.exit (Qx (Qx (Qh (Qn ?_))))
   exact ⟨s10,H,Lw q4 p1⟩
  ·replace H:=of_f H h12
   refine WL.gskips 6 4 true 46 rfl rfl rfl rfl (WL.pickF rfl rfl rfl rfl rfl rfl (NQ (Wc rfl (fun h=>absurd h (by decide)) (fun h=>?_))))
   refine WC.exit (Qx (Qx (Qh (Qn ?_))))
   exact ⟨s10,H,Lw q4 p1⟩
 ·rintro E m ⟨s9,H,hl⟩
  refine WC.lessW hl ?_
  replace H:=(hK8 _).symm.trans H
  try dsimp only at H
  refine G (R 2 rfl (NQ ?_))
  obtain ⟨K16,hK16,H⟩:=da H
  refine WC.cut (fun E m=>∃ s17:Int×Int×(List ByteArray),K16 s17=some r∧hJ E m [(0, .d (.str a0)),(9, .own 141),(10, .d (.int .i64 s17.1)),(11, .d (.int .i64 s17.2.1))] [(141, .row 9 1 (s17.2.2.map fq))]) ?_ ?_
  ·refine Wb (Wl (ι:= {x:Nat×(Int×Int×Int×(List ByteArray)) //dJ a0 K16 x.1 x.2=some r}) (fun x=>[(0, .d (.str a0)),(9, .own 141),(10, .d (.int .i64 x.1.2.1)),(11, .d (.int .i64 x.1.2.2.1)),(12, .d (.int .i64 x.1.2.2.2.1))]) (fun x=>[(141, .row 9 1 (x.1.2.2.2.2.map fq))]) (fun x=>x.1.1) ⟨(fuel,(0,s9,s9,List.replicate s1.1.toNat (ByteArray.empty:ByteArray))),H⟩ (Lm p5 p1) fun x=>?_)
   obtain ⟨⟨k19,s18⟩,H⟩:=x
   rcases k19 with _ | k19
   ·exact aP H
   rw [dJ] at H
   refine Ws (G (R 4 rfl (NQ (Wd rfl H (fun H=>?_) (fun H=>?_)))))
   ·refine Wk (Qn (Wb (Ws (G ?_))))
    obtain ⟨g21,H⟩:=av H
    refine RS 3 rfl ⟨(an g21),tv⟩ ?_
    obtain ⟨g22,H⟩:=av H
    refine WL.yv (LJ.Y.idxElpA 256 (fun k=> .int .u8 (aU.getD k default)) (bc a0 s18.2.2.1.toNat) (by kernel_rfl) rfl rfl rfl mg (an g22)) rfl rfl rfl (R 2 rfl (NQ (Wd rfl H (fun H=>?_) (fun H=>?_))))
    ·refine G (R 3 rfl (NQ (WC.exit (Qx (Qh (Qn ?_))))))
     exact ⟨⟨(k19,(s18.1,s18.2.1,IntKind.i64.wrap (s18.2.2.1+1),s18.2.2.2)),H⟩,Z,Lm p5 p1⟩
    refine Wk (Qn (G ?_))
    obtain ⟨g24,H⟩:=av H
    refine RS 6 rfl ⟨(uc g24),tv⟩ ?_
    obtain ⟨g25,H⟩:=av H
    refine WL.yv (LJ.Y.idxRel fq s18.2.2.2 s18.1 tk rfl rfl rfl rfl rfl (an g25)) rfl rfl rfl (WL.storeRel fq s18.2.2.2 s18.1 0 (a0.extract s18.2.1.toNat s18.2.2.1.toNat) (.str (a0.extract s18.2.1.toNat s18.2.2.1.toNat)) rfl rfl rfl rfl (fun _=>rfl) rfl (by kernel_rfl) rfl rfl (by first | exact an g25 | (have:=an g25;simpa only [List.length_set,List.length_map] using this)) rfl rfl rfl rfl ?_)
    refine N (R 3 rfl (N (R 3 rfl (NQ ?_))))
    obtain ⟨K26,hK26,H⟩:=da H
    refine WC.cut (fun E m=>∃ s27:Int,K26 s27=some r∧hJ E m [(0, .d (.str a0)),(9, .own 141),(10, .d (.int .i64 (IntKind.i64.wrap (s18.1+1)))),(12, .d (.int .i64 s27))] [(141, .row 9 1 ((s18.2.2.2.set s18.1.toNat (a0.extract s18.2.1.toNat s18.2.2.1.toNat)).map fq))]) ?_ ?_
    ·refine Wb (Wl (ι:= {x:Nat×Int //eS a0 K26 x.1 x.2=some r}) (fun x=>[(0, .d (.str a0)),(9, .own 141),(10, .d (.int .i64 (IntKind.i64.wrap (s18.1+1)))),(12, .d (.int .i64 x.1.2))]) (fun x=>[(141, .row 9 1 ((s18.2.2.2.set s18.1.toNat (a0.extract s18.2.1.toNat s18.2.2.1.toNat)).map fq))]) (fun x=>x.1.1) ⟨(fuel,IntKind.i64.wrap (s18.2.2.1+1)),H⟩ (Lm p4 p1) fun x=>?_)
     obtain ⟨⟨k29,s28⟩,H⟩:=x
     rcases k29 with _ | k29
     ·exact aP H
     rw [eS] at H
     refine Ws (G (R 5 rfl (WL.split (g:=84) rfl (fun h30=>?_) (fun h30=>?_))))
     ·replace H:=of_t H h30
      obtain ⟨g31,H⟩:=av H
      refine WL.grun 3 4 true 84 tk sg0 rfl rfl rfl rfl ⟨(an g31),tv⟩ ?_
      obtain ⟨g32,H⟩:=av H
      refine WL.gyv (LJ.Y.idxElpA 256 (fun k=> .int .u8 (aU.getD k default)) (bc a0 s28.toNat) (by kernel_rfl) rfl rfl rfl mg (an g32)) rfl rfl rfl rfl rfl rfl (WL.grun 2 4 true 84 tk sg0 rfl rfl rfl rfl tv (WL.pickT rfl rfl rfl rfl rfl rfl (NQ (Wd rfl H (fun H=>?_) (fun H=>?_)))))
      ·refine Wk (Qn (Wb (Wg (R 3 rfl (Wn (Qb (Qn ?_)))))))
       exact ⟨⟨(k29,IntKind.i64.wrap (s28+1)),H⟩,Z,Lm p4 p1⟩
      refine WC.exit (Qx (Qx (Qh (Qn ?_))))
      exact ⟨s28,H,Lw q4 p1⟩
     ·replace H:=of_f H h30
      refine WL.gskips 6 4 true 84 rfl rfl rfl rfl (WL.pickF rfl rfl rfl rfl rfl rfl (NQ (Wc rfl (fun h=>absurd h (by decide)) (fun h=>?_))))
      refine WC.exit (Qx (Qx (Qh (Qn ?_))))
      exact ⟨s28,H,Lw q4 p1⟩
    ·rintro E m ⟨s27,H,hl⟩
     refine WC.lessW hl ?_
     replace H:=(hK26 _).symm.trans H
     try dsimp only at H
     refine Wg (R 2 rfl (Wn (Qb (Qn ?_))))
     exact ⟨⟨(k19,(IntKind.i64.wrap (s18.1+1),s27,s27,s18.2.2.2.set s18.1.toNat (a0.extract s18.2.1.toNat s18.2.2.1.toNat))),H⟩,Z,Lm p5 p1⟩
   refine WC.exit (Qx (Qx (Qh (Qn ?_))))
   exact ⟨(s18.1,s18.2.1,s18.2.2.2),H,Lw q4 p1⟩
  ·rintro E m ⟨s17,H,hl⟩
   refine WC.lessW hl ?_
   replace H:=(hK16 _).symm.trans H
   try dsimp only at H
   refine Ws (G (R 4 rfl (NQ (Wd rfl H (fun H=>?_) (fun H=>?_)))))
   ·refine Wg ?_
    obtain ⟨g35,H⟩:=av H
    refine RS 5 rfl ⟨(rD g35),tv⟩ ?_
    obtain ⟨g36,H⟩:=av H
    refine WL.yv (LJ.Y.idxRel fq s17.2.2 s17.1 tk rfl rfl rfl rfl rfl (an g36)) rfl rfl rfl (WL.storeRel fq s17.2.2 s17.1 0 (a0.extract s17.2.1.toNat a0.size) (.str (a0.extract s17.2.1.toNat a0.size)) rfl rfl rfl rfl (fun _=>rfl) rfl (by kernel_rfl) rfl rfl (by first | exact an g36 | (have:=an g36;simpa only [List.length_set,List.length_map] using this)) rfl rfl rfl rfl ?_)
    refine N (R 2 rfl (NQ (WC.freezeT 141 fq (s17.2.2.set s17.1.toNat (a0.extract s17.2.1.toNat a0.size)) rfl rfl rfl rfl (Wt ?_))))
    cases H
    exact Ea rfl rfl rfl tv
   refine Wk (Qn (G (R 2 rfl (NQ (WC.freezeT 141 fq s17.2.2 rfl rfl rfl rfl (Wt ?_))))))
   cases H
   exact Ea rfl rfl rfl tv
theorem kh:aD Tryz.prog 112 Tryz.f112:=⟨Tryz.func112,rfl,by kernel_rfl⟩
theorem u6 (a0:Int) {r:ByteArray} (H:lM a0=some r):LJ.Spec Tryz.prog 109 [.d (.int .i64 a0)] [] (.d (.str r)) []:=by
 refine LJ.Spec.code Tryz.func109 rfl 10 rfl rfl [] rfl fun w0 F0 S0 B0=>?_
 unfold lM at H
 refine G (R 1 rfl (NS (G (R 1 rfl ?_))))
 obtain ⟨x1,hx1,H⟩:=al H
 refine Cl [] (lj _ hx1) lk rfl tv rfl (R 1 rfl (NQ (Wd rfl H (fun H=>?_) (fun H=>?_))))
 ·refine G (R 1 rfl (NQ (Wt (QT.r ?_))))
  cases H
  exact Ea rfl rfl rfl tv
 refine Wk (Qn (G ?_))
 obtain ⟨x3,hx3,H⟩:=al H
 refine Cl [] (kg _ hx3) kh rfl tv rfl ?_
 obtain ⟨g4,H⟩:=av H
 refine RS 4 rfl ⟨⟨(an g4).1,(an g4).2,rfl⟩,tv⟩ (NQ (Wt ?_))
 cases H
 exact Ea rfl rfl rfl tv
theorem u7:aD Tryz.prog 109 Tryz.f109:=⟨Tryz.func109,rfl,by kernel_rfl⟩
theorem gd (a0:Int) {r:ByteArray} (H:j0 a0=some r):LJ.Spec Tryz.prog 88 [.d (.int .i64 a0)] [] (.d (.str r)) []:=by
 refine LJ.Spec.code Tryz.func88 rfl 14 rfl rfl [] rfl fun w0 F0 S0 B0=>?_
 unfold j0 at H
 refine G (R 1 rfl (NS (G (R 1 rfl ?_))))
 obtain ⟨x1,hx1,H⟩:=al H
 refine Cl [] (lj _ hx1) lk rfl tv rfl (R 1 rfl (NQ (Wd rfl H (fun H=>?_) (fun H=>?_))))
 ·refine G (R 1 rfl (NQ (Wt (QT.r ?_))))
  cases H
  exact Ea rfl rfl rfl tv
 refine Wk (Qn (G ?_))
 obtain ⟨x3,hx3,H⟩:=al H
 refine Cl [] (kg _ hx3) kh rfl tv rfl ?_
 obtain ⟨g4,H⟩:=av H
 refine RS 4 rfl ⟨⟨(an g4).1,(an g4).2,rfl⟩,tv⟩ (NS (G (R 2 rfl (NQ (Wd rfl H (fun H=>?_) (fun H=>?_))))))
 ·refine G (R 1 rfl (NQ (Wt (QT.r ?_))))
  cases H
  exact Ea rfl rfl rfl tv
 refine Wk (Qn (G (R 2 rfl (NQ (Wt ?_)))))
 cases H
 exact Ea rfl rfl rfl tv
theorem gf:aD Tryz.prog 88 Tryz.f88:=⟨Tryz.func88,rfl,by kernel_rfl⟩
theorem Ck (a0:Int) (a1:Int) {r:Bool} (H:uv a0 a1=some r):LJ.Spec Tryz.prog 110 [.d (.int .u8 a0), .d (.int .i64 a1)] [] (.d (.bool r)) []:=by
 refine LJ.Spec.code Tryz.func110 rfl 56 rfl rfl [] rfl fun w0 F0 S0 B0=>?_
 unfold uv at H
 refine G (R 1 rfl (NS (G (R 1 rfl (NQ (Wb (G (R 2 rfl (NQ (Wd rfl H (fun H=>?_) (fun H=>?_)))))))))))
 ·refine G (R 1 rfl ?_)
  obtain ⟨x2,hx2,H⟩:=al H
  refine Cl [] (qw _ hx2) qx rfl tv rfl (R 1 rfl (NQ (Wt (QB.r (QT.r ?_)))))
  cases H
  exact Ea rfl rfl rfl tv
 refine G (R 2 rfl (NQ (Wd rfl H (fun H=>?_) (fun H=>?_))))
 ·refine G (R 3 rfl (Wx 2 2 true tk sg0 rfl rfl (fun _=>tv) (RS 2 rfl ⟨by first | exact id | exact fun h=>by rw [h];rfl | simp_all,tv⟩ (NQ (Wt (QB.r (QT.r ?_)))))))
  cases H
  exact Ea rfl rfl rfl tv
 refine G (R 2 rfl (NQ (Wd rfl H (fun H=>?_) (fun H=>?_))))
 ·refine G (R 3 rfl (Wx 2 2 true tk sg0 rfl rfl (fun _=>tv) (RS 2 rfl ⟨by first | exact id | exact fun h=>by rw [h];rfl | simp_all,tv⟩ (NQ (Wt (QB.r (QT.r ?_)))))))
  cases H
  exact Ea rfl rfl rfl tv
 refine G (R 2 rfl (NQ (Wd rfl H (fun H=>?_) (fun H=>?_))))
 ·refine G (R 3 rfl (Wx 2 2 true tk sg0 rfl rfl (fun _=>tv) (RS 2 rfl ⟨by first | exact id | exact fun h=>by rw [h];rfl | simp_all,tv⟩ (NQ (Wt (QB.r (QT.r ?_)))))))
  cases H
  exact Ea rfl rfl rfl tv
 refine G (R 2 rfl (NQ (Wd rfl H (fun H=>?_) (fun H=>?_))))
 ·refine G (R 3 rfl (Wx 2 2 true tk sg0 rfl rfl (fun _=>tv) (RS 2 rfl ⟨by first | exact id | exact fun h=>by rw [h];rfl | simp_all,tv⟩ (NQ (Wt (QB.r (QT.r ?_)))))))
  cases H
  exact Ea rfl rfl rfl tv
 refine G (R 2 rfl (NQ (Wd rfl H (fun H=>?_) (fun H=>?_))))
 ·refine G (R 3 rfl (Wx 2 2 true tk sg0 rfl rfl (fun _=>tv) (RS 2 rfl ⟨by first | exact id | exact fun h=>by rw [h];rfl | simp_all,tv⟩ (NQ (Wt (QB.r (QT.r ?_)))))))
  cases H
  exact Ea rfl rfl rfl tv
 refine Wk (Qb (Qn ?_))
 refine G (R 3 rfl (Wx 2 2 true tk sg0 rfl rfl (fun _=>tv) (RS 2 rfl ⟨by first | exact id | exact fun h=>by rw [h];rfl | simp_all,tv⟩ (NQ (Wt ?_)))))
 cases H
 exact Ea rfl rfl rfl tv
theorem Cm:aD Tryz.prog 110 Tryz.f110:=⟨Tryz.func110,rfl,by kernel_rfl⟩
theorem l8 (a0:aq) {r:Int} (H:iR a0=some r):LJ.Spec Tryz.prog 87 [.d (.agg [.int .i64 a0.Op, .int .i64 a0.A, .int .i64 a0.B])] [] (.d (.int .i64 r)) []:=by
 refine LJ.Spec.code Tryz.func87 rfl 54 rfl rfl [] rfl fun w0 F0 S0 B0=>?_
 unfold iR at H
 refine G (Ef 101 rfl (R 1 rfl (NS (G (R 2 rfl ?_)))))
 obtain ⟨x1,hx1,H⟩:=al H
 refine Cl [] (u6 _ hx1) u7 rfl tv rfl (R 1 rfl (NQ (Wd rfl H (fun H=>?_) (fun H=>?_))))
 ·refine G (R 1 rfl (NQ (Wt (QT.r ?_))))
  cases H
  exact Ea rfl rfl rfl tv
 refine Wk (Qn (Ws ?_))
 obtain ⟨x3_2_1,hx3_2_1,H⟩:=al H
 refine WC.heldF [(1, .ptr 101 0),(3, .d (.str x3_2_1)),(4, .ptr 104 0)] [(101, .box 100 [.d (.int .i64 a0.Op), .d (.int .i64 a0.A), .d (.int .i64 a0.B)]),(104, .box 161 [.d (.int .i64 a0.A), .d (.int .i64 a0.B)])] (sT 0 (sT 1 (sT 3 (sT 4 (sT 5 (sT 6 (sT 7 (fk (sf 2 (sf 8 (sT 9 (sf 10 sd)))) (sf 8 (sf 2 (sT 9 (sf 10 sd)))))))))))) [101] [101] rfl (by kernel_rfl) rfl (by kernel_rfl) rfl rfl (fun _ h=>h) rfl rfl rfl (fun FK NK wK K=>?_) ?_
 ·refine Hr 6 tk rfl rfl rfl rfl tv (WH.yv rfl (LJ.Y.buildArr 2 [.int .i64 0, .int .i64 0] [.int .i64 a0.A, .int .i64 a0.B] (by kernel_rfl) (by kernel_rfl) rfl rfl rfl) rfl rfl rfl (WH.fork ?_ ?_))
  ·exact WH.call [] rfl (gd _ hx3_2_1) gf rfl rfl tv rfl rfl rfl rfl rfl (WH.allocZ 104 [.int .i64 0, .int .i64 0] rfl rfl (by kernel_rfl) rfl rfl rfl rfl rfl rfl (Hr 1 tk rfl rfl rfl rfl tv (He 0 tk ek rfl rfl rfl rfl tv rfl rfl (Hn rfl (Lw q3 p2)))))
  ·exact WH.allocZ 104 [.int .i64 0, .int .i64 0] rfl rfl (by kernel_rfl) rfl rfl rfl rfl rfl rfl (WH.call [] rfl (gd _ hx3_2_1) gf rfl rfl tv rfl rfl rfl rfl rfl (Hr 1 tk rfl rfl rfl rfl tv (He 0 tk ek rfl rfl rfl rfl tv rfl rfl (Hn rfl (Lw q3 p2)))))
 ·refine Qn (Ws (G (R 3 rfl (NQ (Wb (Wl (ι:= {x:Nat×Int //dh a0 x3_2_1 x.1 x.2=some r}) (fun x=>[(1, .ptr 101 0),(3, .d (.str x3_2_1)),(4, .ptr 104 0),(21, .d (.int .i64 (x3_2_1.size:Int))),(22, .d (.int .i64 x.1.2))]) (fun x=>[(101, .box 100 [.d (.int .i64 a0.Op), .d (.int .i64 a0.A), .d (.int .i64 a0.B)]),(104, .box 161 [.d (.int .i64 a0.A), .d (.int .i64 a0.B)])]) (fun x=>x.1.1) ⟨(fuel,0),H⟩ (Lm p5 p2) fun x=>?_))))))
  obtain ⟨⟨k4,s3⟩,H⟩:=x
  rcases k4 with _ | k4
  ·exact aP H
  rw [dh] at H
  refine G (R 1 rfl (NS (Wd rfl H (fun H=>?_) (fun H=>?_))))
  ·refine Wk (Qn (Ws (Wb (G (R 2 rfl (NS (Hp (.one 0 true (.one 1 true (.one 2 true (.one 3 true (.one 4 true (.one 5 true (.one 6 false (.one 7 true .done)))))))) [101,104] [101,104] rfl (by kernel_rfl) rfl (by kernel_rfl) rfl rfl (fun _ h=>h) rfl rfl rfl (fun _ _ _ h=>h) fun FK NK wK K=>?_)))))))
   obtain ⟨g6,H⟩:=av H
   refine Hr 4 tk rfl rfl rfl rfl ⟨(an g6),tv⟩ ?_
   obtain ⟨g7,H⟩:=av H
   refine WH.yv rfl (LJ.Y.idxPtrA 2 s3 (by kernel_rfl) rfl rfl rfl (an g7)) rfl rfl rfl (WH.yv rfl (LJ.Y.loadPtrA 2 0 (fun k=> .int .i64 (([a0.A,a0.B]:List Int).getD k default)) s3 rfl rfl rfl (by kernel_rfl) rfl (an g7)) rfl rfl rfl ?_)
   obtain ⟨x8,hx8,H⟩:=al H
   refine WH.call [] rfl (Ck _ _ hx8) Cm rfl rfl tv rfl rfl rfl rfl rfl (Hr 1 tk rfl rfl rfl rfl tv (WH.nil rfl (Qn (Wd rfl H (fun H=>?_) (fun H=>?_)))))
   ·refine G (R 1 rfl (NQ (Wt (QB.r (QT.r (QT.r (QB.r (QT.r ?_))))))))
    cases H
    exact Ea rfl rfl rfl tv
   refine Wk (Qb (Qn ?_))
   exact Wg (R 2 rfl (NQ (⟨⟨(k4,IntKind.i64.wrap (s3+1)),H⟩,Z,Lm p5 p2⟩)))
  refine WC.exit (Qx (Qx (Qh (Qn ?_))))
  refine Ws (G (R 3 rfl (Wx 5 2 true tk sg0 rfl rfl (fun _=>tv) (RS 1 rfl ⟨by first | exact id | exact fun h=>by rw [h];rfl | simp_all,tv⟩ (NQ (Wd rfl H (fun H=>?_) (fun H=>?_)))))))
  ·refine G (R 1 rfl (NQ (Wt (QT.r ?_))))
   cases H
   exact Ea rfl rfl rfl tv
  refine Wk (Qn (Ws (G (R 2 rfl ?_))))
  obtain ⟨g11,H⟩:=av H
  refine WL.yv (LJ.Y.slicePsl 2 (x3_2_1.size:Int) ((2:Nat):Int) (by kernel_rfl) rfl rfl ⟨_,rfl⟩ rfl (uc g11)) rfl rfl rfl (WL.yv (LJ.Y.lenPsl tk rfl rfl rfl) rfl rfl rfl (R 1 rfl (NQ (Wb (Wl (ι:= {x:Nat×Int //cM a0 x3_2_1 x.1 x.2=some r}) (fun x=>[(45, .psl 104 (0+(x3_2_1.size:Int).toNat) (((2:Nat):Int) - (x3_2_1.size:Int)).toNat (2 - (x3_2_1.size:Int).toNat)),(46, .d (.int .i64 ((((2:Nat):Int) - (x3_2_1.size:Int)).toNat:Int))),(47, .d (.int .i64 x.1.2))]) (fun x=>[(104, .box 161 [.d (.int .i64 a0.A), .d (.int .i64 a0.B)])]) (fun x=>x.1.1) ⟨(fuel,0),H⟩ (Lm p3 p1) fun x=>?_)))))
  obtain ⟨⟨k13,s12⟩,H⟩:=x
  rcases k13 with _ | k13
  ·exact aP H
  rw [cM] at H
  refine G (R 1 rfl (NS (Wd rfl H (fun H=>?_) (fun H=>?_))))
  ·refine Wk (Qn (Ws (Wb (G ?_))))
   obtain ⟨g15,H⟩:=av H
   obtain ⟨g16,H⟩:=av H
   obtain ⟨g17,H⟩:=av H
   refine WL.yv (LJ.Y.idxPsl (x3_2_1.size:Int) s12 0 tk rfl rfl rfl rfl (zQ g15) (an g16)) rfl rfl rfl (WL.yv (LJ.Y.loadPtrA 2 0 (fun k=> .int .i64 (([a0.A,a0.B]:List Int).getD k default)) ((x3_2_1.size:Int)+s12) rfl rfl rfl (by kernel_rfl) rfl (an g17)) rfl rfl rfl (R 1 rfl (N (R 2 rfl (NQ (Wd rfl H (fun H=>?_) (fun H=>?_)))))))
   ·refine G (R 1 rfl (NQ (Wt (QB.r (QT.r (QT.r (QB.r (QT.r ?_))))))))
    cases H
    exact Ea rfl rfl rfl tv
   refine Wk (Qb (Qn ?_))
   exact Wg (R 2 rfl (NQ (⟨⟨(k13,IntKind.i64.wrap (s12+1)),H⟩,Z,Lm p3 p1⟩)))
  refine WC.exit (Qx (Qx (Qh (Qn ?_))))
  refine G (R 1 rfl (NQ (Wt ?_)))
  cases H
  exact Ea rfl rfl rfl tv
theorem l9:aD Tryz.prog 87 Tryz.f87:=⟨Tryz.func87,rfl,by kernel_rfl⟩
theorem qA (a0:aw) {r:Int} (H:fZ a0=some r):LJ.Spec Tryz.prog 84 [.d (.agg [.int .i64 a0.Args, .int .i64 a0.Locals,slT aB a0.Code])] [] (.d (.int .i64 r)) []:=by
 refine LJ.Spec.code Tryz.func84 rfl 45 rfl rfl [] rfl fun w0 F0 S0 B0=>?_
 unfold fZ at H
 refine G (Ef 101 rfl (R 1 rfl (NS (Wb (G (R 4 rfl (Wx 5 3 false tk sg0 rfl rfl (fun _=>tv) (RS 2 rfl ⟨by first | exact id | exact fun h=>by rw [h];rfl | simp_all,tv⟩ (Wx 3 10 false tk sg0 rfl rfl (fun _=>tv) (RS 2 rfl ⟨by first | exact id | exact fun h=>by rw [h];rfl | simp_all,tv⟩ (NQ (Wd rfl H (fun H=>?_) (fun H=>?_)))))))))))))
 ·refine G (R 1 rfl (NQ (Wt (QB.r (QT.r ?_)))))
  cases H
  exact Ea rfl rfl rfl tv
 refine G (R 5 rfl (NQ (Wd rfl H (fun H=>?_) (fun H=>?_))))
 ·refine G (R 1 rfl (NQ (Wt (QB.r (QT.r ?_)))))
  cases H
  exact Ea rfl rfl rfl tv
 refine G (R 5 rfl (NQ (Wd rfl H (fun H=>?_) (fun H=>?_))))
 ·refine G (R 1 rfl (NQ (Wt (QB.r (QT.r ?_)))))
  cases H
  exact Ea rfl rfl rfl tv
 refine Wk (Qb (Qn ?_))
 refine Ws (G (R 4 rfl (NQ (Wb (Wl (ι:= {x:Nat×Int //cE a0 x.1 x.2=some r}) (fun x=>[(33, .d (slT aB a0.Code)),(34, .d (.int .i64 (a0.Code.length:Int))),(35, .d (.int .i64 x.1.2))]) (fun x=>[]) (fun x=>x.1.1) ⟨(fuel,0),H⟩ (Lm p3 tv) fun x=>?_)))))
 obtain ⟨⟨k5,s4⟩,H⟩:=x
 rcases k5 with _ | k5
 ·exact aP H
 rw [cE] at H
 refine G (R 1 rfl (NS (Wd rfl H (fun H=>?_) (fun H=>?_))))
 ·refine Wk (Qn (Ws (Wb (G ?_))))
  obtain ⟨g7,H⟩:=av H
  refine RS 2 rfl ⟨⟨(an g7).1,(an g7).2,rfl⟩,tv⟩ (Wa 104 tk rfl rfl rfl (Ef 0 rfl (N (R 1 rfl ?_))))
  obtain ⟨x8,hx8,H⟩:=al H
  refine Cl [] (l8 _ hx8) l9 rfl tv rfl (R 1 rfl (N (R 2 rfl (NQ (Wd rfl H (fun H=>?_) (fun H=>?_))))))
  ·refine G (R 2 rfl (NQ (Wt (QB.r (QT.r (QT.r (QB.r (QT.r ?_))))))))
   cases H
   exact Ea rfl rfl rfl tv
  refine Wk (Qb (Qn ?_))
  exact Wg (R 2 rfl (NQ (⟨⟨(k5,IntKind.i64.wrap (s4+1)),H⟩,Z,Lm p3 tv⟩)))
 refine WC.exit (Qx (Qx (Qh (Qn ?_))))
 refine G (R 1 rfl (NQ (Wt ?_)))
 cases H
 exact Ea rfl rfl rfl tv
theorem qB:aD Tryz.prog 84 Tryz.f84:=⟨Tryz.func84,rfl,by kernel_rfl⟩
theorem kN (a0:aa) {r:Int} (H:gB a0=some r):LJ.Spec Tryz.prog 49 [.d (.agg [slT ah a0.Decls,slT ab a0.Waits,slT aj a0.Funcs])] [] (.d (.int .i64 r)) []:=by
 refine LJ.Spec.code Tryz.func49 rfl 60 rfl rfl [] rfl fun w0 F0 S0 B0=>?_
 unfold gB at H
 refine G (Ef 101 rfl (R 1 rfl (NS (G (R 2 rfl ?_)))))
 obtain ⟨x1,hx1,H⟩:=al H
 refine Cl [] (kJ _ hx1) kK rfl tv rfl (R 5 rfl (N (R 2 rfl (NQ (Wd rfl H (fun H=>?_) (fun H=>?_))))))
 ·refine G (R 2 rfl (NQ (Wt (QT.r ?_))))
  cases H
  exact Ea rfl rfl rfl tv
 refine Wk (Qn (Ws (G (R 4 rfl (NQ (Wd rfl H (fun H=>?_) (fun H=>?_)))))))
 ·refine G (R 1 rfl (NQ (Wt (QT.r ?_))))
  cases H
  exact Ea rfl rfl rfl tv
 refine Wk (Qn (Ws (G (R 4 rfl (NQ (Wb (Wl (ι:= {x:Nat×Int //eo a0 x.1 x.2=some r}) (fun x=>[(1, .ptr 101 0),(25, .d (slT ab a0.Waits)),(26, .d (.int .i64 (a0.Waits.length:Int))),(27, .d (.int .i64 x.1.2))]) (fun x=>[(101, .box 28 [.d (slT ah a0.Decls), .d (slT ab a0.Waits), .d (slT aj a0.Funcs)])]) (fun x=>x.1.1) ⟨(fuel,0),H⟩ (Lm p4 p1) fun x=>?_)))))))
 obtain ⟨⟨k5,s4⟩,H⟩:=x
 rcases k5 with _ | k5
 ·exact aP H
 rw [eo] at H
 refine G (R 1 rfl (NS (Wd rfl H (fun H=>?_) (fun H=>?_))))
 ·refine Wk (Qn (Ws (Wb (G ?_))))
  obtain ⟨g7,H⟩:=av H
  refine RS 3 rfl ⟨⟨(an g7).1,(an g7).2,rfl⟩,tv⟩ (N (R 3 rfl ?_))
  obtain ⟨x8,hx8,H⟩:=al H
  refine Cl [] (kL _ _ hx8) kM rfl tv rfl (R 1 rfl (N (R 2 rfl (NQ (Wd rfl H (fun H=>?_) (fun H=>?_))))))
  ·refine G (R 2 rfl (NQ (Wt (QB.r (QT.r (QT.r (QB.r (QT.r ?_))))))))
   cases H
   exact Ea rfl rfl rfl tv
  refine Wk (Qb (Qn ?_))
  exact Wg (R 2 rfl (NQ (⟨⟨(k5,IntKind.i64.wrap (s4+1)),H⟩,Z,Lm p4 p1⟩)))
 refine WC.exit (Qx (Qx (Qh (Qn ?_))))
 refine Ws (G (R 4 rfl (NQ (Wd rfl H (fun H=>?_) (fun H=>?_)))))
 ·refine G (R 1 rfl (NQ (Wt (QT.r ?_))))
  cases H
  exact Ea rfl rfl rfl tv
 refine Wk (Qn (Ws (G (R 4 rfl (NQ (Wd rfl H (fun H=>?_) (fun H=>?_)))))))
 ·refine G (R 1 rfl (NQ (Wt (QT.r ?_))))
  cases H
  exact Ea rfl rfl rfl tv
 refine Wk (Qn (Ws (G (R 4 rfl (NQ (Wb (Wl (ι:= {x:Nat×Int //dT a0 x.1 x.2=some r}) (fun x=>[(48, .d (slT aj a0.Funcs)),(49, .d (.int .i64 (a0.Funcs.length:Int))),(50, .d (.int .i64 x.1.2))]) (fun x=>[]) (fun x=>x.1.1) ⟨(fuel,0),H⟩ (Lm p3 tv) fun x=>?_)))))))
 obtain ⟨⟨k13,s12⟩,H⟩:=x
 rcases k13 with _ | k13
 ·exact aP H
 rw [dT] at H
 refine G (R 1 rfl (NS (Wd rfl H (fun H=>?_) (fun H=>?_))))
 ·refine Wk (Qn (Ws (Wb (G ?_))))
  obtain ⟨g15,H⟩:=av H
  refine RS 2 rfl ⟨⟨(an g15).1,(an g15).2,rfl⟩,tv⟩ (Wa 109 tk rfl rfl rfl (Ef 0 rfl (N (R 1 rfl ?_))))
  obtain ⟨x16,hx16,H⟩:=al H
  refine Cl [] (qA _ hx16) qB rfl tv rfl (R 1 rfl (N (R 2 rfl (NQ (Wd rfl H (fun H=>?_) (fun H=>?_))))))
  ·refine G (R 2 rfl (NQ (Wt (QB.r (QT.r (QT.r (QB.r (QT.r ?_))))))))
   cases H
   exact Ea rfl rfl rfl tv
  refine Wk (Qb (Qn ?_))
  exact Wg (R 2 rfl (NQ (⟨⟨(k13,IntKind.i64.wrap (s12+1)),H⟩,Z,Lm p3 tv⟩)))
 refine WC.exit (Qx (Qx (Qh (Qn ?_))))
 refine G (R 1 rfl (NQ (Wt ?_)))
 cases H
 exact Ea rfl rfl rfl tv
theorem kO:aD Tryz.prog 49 Tryz.f49:=⟨Tryz.func49,rfl,by kernel_rfl⟩
theorem oI (a0:aa) (a1:aw) (a2:aq) (a3:Int) (a4:Int) {r:Int} (H:fu a0 a1 a2 a3 a4=some r):LJ.Spec Tryz.prog 89 [.d (.agg [slT ah a0.Decls,slT ab a0.Waits,slT aj a0.Funcs]), .d (.agg [.int .i64 a1.Args, .int .i64 a1.Locals,slT aB a1.Code]), .d (.agg [.int .i64 a2.Op, .int .i64 a2.A, .int .i64 a2.B]), .d (.int .u8 a3), .d (.int .i64 a4)] [] (.d (.int .i64 r)) []:=by
 refine LJ.Spec.code Tryz.func89 rfl 65 rfl rfl [] rfl fun w0 F0 S0 B0=>?_
 unfold fu at H
 refine G (Ef 105 rfl (Ef 106 rfl (Ef 107 rfl (R 1 rfl (N (R 1 rfl (NS (G (R 1 rfl (NQ (Wb (Ws (G (R 2 rfl (NQ (Wc rfl (fun h1=>?_) (fun h1=>?_)))))))))))))))))
 ·replace H:=of_t H h1
  refine WC.known (g:=19) true rfl h1 (Wk (Qn (Wc rfl (fun h=>?_) (fun h=>absurd h (by decide)))))
  refine Wk (Qb (Qn ?_))
  refine Ws (G (R 2 rfl (NQ (Wc rfl (fun h=>absurd h (by decide)) (fun h=>?_)))))
  refine Wk (Qn (G (R 1 rfl (NQ (Wt ?_)))))
  cases H
  exact Ea rfl rfl rfl tv
 replace H:=of_f H h1
 refine Wg (R 2 rfl (NQ (Wd rfl H (fun H=>?_) (fun H=>?_))))
 ·refine Wk (Qb (Qn ?_))
  refine Ws (G (R 2 rfl (NQ (Wc rfl (fun h=>absurd h (by decide)) (fun h=>?_)))))
  refine Wk (Qn (G (R 1 rfl (NQ (Wt ?_)))))
  cases H
  exact Ea rfl rfl rfl tv
 refine G (R 2 rfl (NQ (Wd rfl H (fun H=>?_) (fun H=>?_))))
 ·refine Wg (R 5 rfl (Wn (Qb (Qn ?_))))
  refine Ws (G (R 2 rfl (NQ (Wd rfl H (fun H=>?_) (fun H=>?_)))))
  ·refine G (R 1 rfl (NQ (Wt (QT.r ?_))))
   cases H
   exact Ea rfl rfl rfl tv
  refine Wk (Qn (G (R 1 rfl (NQ (Wt ?_)))))
  cases H
  exact Ea rfl rfl rfl tv
 refine G (R 2 rfl (NQ (Wd rfl H (fun H=>?_) (fun H=>?_))))
 ·refine Wg (R 6 rfl (Wn (Qb (Qn ?_))))
  refine Ws (G (R 2 rfl (NQ (Wd rfl H (fun H=>?_) (fun H=>?_)))))
  ·refine G (R 1 rfl (NQ (Wt (QT.r ?_))))
   cases H
   exact Ea rfl rfl rfl tv
  refine Wk (Qn (G (R 1 rfl (NQ (Wt ?_)))))
  cases H
  exact Ea rfl rfl rfl tv
 refine G (R 2 rfl (NQ (Wd rfl H (fun H=>?_) (fun H=>?_))))
 ·refine Wg (R 6 rfl (Wx 4 5 true tk sg0 rfl rfl (fun _=>tv) ?_))
  obtain ⟨g8,H⟩:=fx H
  refine Wx 7 9 false tk sg0 rfl rfl (fun hb=>⟨⟨(an (g8 hb)).1,(an (g8 hb)).2,rfl⟩,tv⟩) (Wx 1 5 true tk sg0 rfl rfl (fun hb=>⟨by first | exact id | exact ⟨hb,fun h=>by rw [hb,h];rfl⟩ | exact ⟨hb,id⟩ | exact fun h=>by rw [hb,h];rfl | exact fun h=>by rw [h];rfl | simp_all,tv⟩) (RS 2 rfl ⟨by first | exact id | exact fun h=>by rw [h];rfl | simp_all,tv⟩ (Wn (Qb (Qn ?_)))))
  refine Ws (G (R 2 rfl (NQ (Wd rfl H (fun H=>?_) (fun H=>?_)))))
  ·refine G (R 1 rfl (NQ (Wt (QT.r ?_))))
   cases H
   exact Ea rfl rfl rfl tv
  refine Wk (Qn (G (R 1 rfl (NQ (Wt ?_)))))
  cases H
  exact Ea rfl rfl rfl tv
 refine G (R 2 rfl (NQ (Wd rfl H (fun H=>?_) (fun H=>?_))))
 ·refine Wg (R 6 rfl (Wn (Qb (Qn ?_))))
  refine Ws (G (R 2 rfl (NQ (Wd rfl H (fun H=>?_) (fun H=>?_)))))
  ·refine G (R 1 rfl (NQ (Wt (QT.r ?_))))
   cases H
   exact Ea rfl rfl rfl tv
  refine Wk (Qn (G (R 1 rfl (NQ (Wt ?_)))))
  cases H
  exact Ea rfl rfl rfl tv
 refine G (R 4 rfl ?_)
 obtain ⟨x12,hx12,H⟩:=al H
 refine Cl [] (fL _ _ _ hx12) fM rfl tv rfl (R 1 rfl (NQ (Wd rfl H (fun H=>?_) (fun H=>?_))))
 ·refine G (R 1 rfl (NQ (Wt (QB.r (QT.r ?_)))))
  cases H
  exact Ea rfl rfl rfl tv
 refine Wk (Qb (Qn ?_))
 refine Ws (G (R 2 rfl (NQ (Wc rfl (fun h=>absurd h (by decide)) (fun h=>?_)))))
 refine Wk (Qn (G (R 1 rfl (NQ (Wt ?_)))))
 cases H
 exact Ea rfl rfl rfl tv
theorem oJ:aD Tryz.prog 89 Tryz.f89:=⟨Tryz.func89,rfl,by kernel_rfl⟩
theorem np (a0:aF) (a1:Int) (a2:Int) {r:aF} (H:bh a0 a1 a2=some r):LJ.Spec Tryz.prog 134 [.ptr 0 0, .d (.int .i64 a1), .d (.int .i64 a2)] [(0, .box 191 [.d (slT ah a0.p.Decls), .d (slT ab a0.p.Waits), .d (slT aj a0.p.Funcs), .d (slT aB a0.code), .own 1, .own 2, .d (.int .i64 a0.at_), .d (.int .i64 a0.err)]),(1, .row 3 1 (a0.depth.map aE)),(2, .row 4 1 (a0.next.map bu))] (.tup []) [(1, .row 3 1 (r.depth.map aE)),(2, .row 4 1 (r.next.map bu)),(0, .box 191 [.d (slT ah r.p.Decls), .d (slT ab r.p.Waits), .d (slT aj r.p.Funcs), .d (slT aB r.code), .own 1, .own 2, .d (.int .i64 r.at_), .d (.int .i64 r.err)])]:=by
 refine LJ.Spec.code Tryz.func134 rfl 27 rfl rfl [0] rfl fun w0 F0 S0 B0=>?_
 unfold bh at H
 refine G (R 6 rfl (Wx 6 5 false tk sg0 rfl rfl (fun _=>tv) (RS 1 rfl ⟨by first | exact id | exact fun h=>by rw [h];rfl | simp_all,tv⟩ (NQ (Wd rfl H (fun H=>?_) (fun H=>?_))))))
 ·refine Wg (R 6 rfl (Ef 0 rfl (R 2 rfl (Ef 0 rfl (Wn ?_)))))
  cases H
  exact Ends.auton rfl rfl rfl p3
 refine Wk ?_
 cases H
 exact Ends.auton rfl rfl rfl p3
theorem cT (n0 n1 n2:Nat) (hn:cD [n0,n1,n2]=true) (a0:aF) (a1:Int) (a2:Int) {r:aF} (H:bh a0 a1 a2=some r):LJ.Spec Tryz.prog 134 [.ptr n0 0, .d (.int .i64 a1), .d (.int .i64 a2)] [(n0, .box 191 [.d (slT ah a0.p.Decls), .d (slT ab a0.p.Waits), .d (slT aj a0.p.Funcs), .d (slT aB a0.code), .own n1, .own n2, .d (.int .i64 a0.at_), .d (.int .i64 a0.err)]),(n1, .row 3 1 (a0.depth.map aE)),(n2, .row 4 1 (a0.next.map bu))] (.tup []) [(n1, .row 3 1 (r.depth.map aE)),(n2, .row 4 1 (r.next.map bu)),(n0, .box 191 [.d (slT ah r.p.Decls), .d (slT ab r.p.Waits), .d (slT aj r.p.Funcs), .d (slT aB r.code), .own n1, .own n2, .d (.int .i64 r.at_), .d (.int .i64 r.err)])]:=
 Spec.names [n0,n1,n2] hn rfl rfl (np a0 a1 a2 H)
theorem cU:aD Tryz.prog 134 Tryz.f134:=⟨Tryz.func134,rfl,by kernel_rfl⟩
theorem nq (a0:aF) (a1:Int) (a2:Int) (a3:Int) {r:Bool×aF} (H:aN a0 a1 a2 a3=some r):LJ.Spec Tryz.prog 114 [.ptr 0 0, .d (.int .i64 a1), .d (.int .i64 a2), .d (.int .i64 a3)] [(0, .box 191 [.d (slT ah a0.p.Decls), .d (slT ab a0.p.Waits), .d (slT aj a0.p.Funcs), .d (slT aB a0.code), .own 1, .own 2, .d (.int .i64 a0.at_), .d (.int .i64 a0.err)]),(1, .row 3 1 (a0.depth.map aE)),(2, .row 4 1 (a0.next.map bu))] (.d (.bool r.1)) [(1, .row 3 1 (r.2.depth.map aE)),(2, .row 4 1 (r.2.next.map bu)),(0, .box 191 [.d (slT ah r.2.p.Decls), .d (slT ab r.2.p.Waits), .d (slT aj r.2.p.Funcs), .d (slT aB r.2.code), .own 1, .own 2, .d (.int .i64 r.2.at_), .d (.int .i64 r.2.err)])]:=by
 refine LJ.Spec.code Tryz.func114 rfl 55 rfl rfl [0] rfl fun w0 F0 S0 B0=>?_
 unfold aN at H
 refine G (R 1 rfl (NS (Wb (G (R 8 rfl (NQ (Wd rfl H (fun H=>?_) (fun H=>?_))))))))
 ·refine G (R 2 rfl ?_)
  obtain ⟨x2,hx2,H⟩:=al H
  refine Cl [1,2] (cT 0 1 2 rfl _ _ _ hx2) cU rfl p3 rfl (N (R 1 rfl (NQ (Wt (QB.r (QT.r ?_))))))
  cases H
  exact Ea rfl rfl rfl p3
 refine G (R 5 rfl ?_)
 obtain ⟨g3,H⟩:=av H
 refine WL.yv (LJ.Y.idxRel aE a0.depth a2 tk rfl rfl rfl rfl rfl (an g3)) rfl rfl rfl (WL.yv (LJ.Y.loadRel aE a0.depth a2 0 rfl rfl (fun _=>rfl) rfl (by kernel_rfl) rfl (by first | exact an g3 | (have:=an g3;simpa only [List.length_set,List.length_map] using this))) rfl rfl rfl (R 2 rfl (NQ (Wd rfl H (fun H=>?_) (fun H=>?_)))))
 ·refine G (R 6 rfl ?_)
  obtain ⟨g5,H⟩:=av H
  refine WL.yv (LJ.Y.idxRel aE a0.depth a2 tk rfl rfl rfl rfl rfl (an g5)) rfl rfl rfl (WL.storeRel aE a0.depth a2 0 a3 (.int .i64 a3) rfl rfl rfl rfl (fun _=>rfl) rfl (by kernel_rfl) rfl rfl (by first | exact an g5 | (have:=an g5;simpa only [List.length_set,List.length_map] using this)) rfl rfl rfl rfl ?_)
  refine NQ (Wg (R 5 rfl ?_))
  obtain ⟨g6,H⟩:=av H
  refine WL.yv (LJ.Y.idxRel bu a0.next a2 tk rfl rfl rfl rfl rfl (an g6)) rfl rfl rfl (WL.storeRel bu a0.next a2 0 true (.bool true) rfl rfl rfl rfl (fun _=>rfl) rfl (by kernel_rfl) rfl rfl (by first | exact an g6 | (have:=an g6;simpa only [List.length_set,List.length_map] using this)) rfl rfl rfl rfl ?_)
  refine Wn (Qb (Qn ?_))
  refine G (R 1 rfl (NQ (Wt ?_)))
  cases H
  exact Ea rfl rfl rfl p3
 refine G (R 5 rfl ?_)
 obtain ⟨g7,H⟩:=av H
 refine WL.yv (LJ.Y.idxRel aE a0.depth a2 tk rfl rfl rfl rfl rfl (an g7)) rfl rfl rfl (WL.yv (LJ.Y.loadRel aE a0.depth a2 0 rfl rfl (fun _=>rfl) rfl (by kernel_rfl) rfl (by first | exact an g7 | (have:=an g7;simpa only [List.length_set,List.length_map] using this))) rfl rfl rfl (R 3 rfl (NQ (Wd rfl H (fun H=>?_) (fun H=>?_)))))
 ·refine G (R 2 rfl ?_)
  obtain ⟨x9,hx9,H⟩:=al H
  refine Cl [1,2] (cT 0 1 2 rfl _ _ _ hx9) cU rfl p3 rfl (N (R 1 rfl (NQ (Wt (QB.r (QT.r ?_))))))
  cases H
  exact Ea rfl rfl rfl p3
 refine Wk (Qb (Qn ?_))
 refine G (R 1 rfl (NQ (Wt ?_)))
 cases H
 exact Ea rfl rfl rfl p3
theorem cB (n0 n1 n2:Nat) (hn:cD [n0,n1,n2]=true) (a0:aF) (a1:Int) (a2:Int) (a3:Int) {r:Bool×aF} (H:aN a0 a1 a2 a3=some r):LJ.Spec Tryz.prog 114 [.ptr n0 0, .d (.int .i64 a1), .d (.int .i64 a2), .d (.int .i64 a3)] [(n0, .box 191 [.d (slT ah a0.p.Decls), .d (slT ab a0.p.Waits), .d (slT aj a0.p.Funcs), .d (slT aB a0.code), .own n1, .own n2, .d (.int .i64 a0.at_), .d (.int .i64 a0.err)]),(n1, .row 3 1 (a0.depth.map aE)),(n2, .row 4 1 (a0.next.map bu))] (.d (.bool r.1)) [(n1, .row 3 1 (r.2.depth.map aE)),(n2, .row 4 1 (r.2.next.map bu)),(n0, .box 191 [.d (slT ah r.2.p.Decls), .d (slT ab r.2.p.Waits), .d (slT aj r.2.p.Funcs), .d (slT aB r.2.code), .own n1, .own n2, .d (.int .i64 r.2.at_), .d (.int .i64 r.2.err)])]:=
 Spec.names [n0,n1,n2] hn rfl rfl (nq a0 a1 a2 a3 H)
theorem cC:aD Tryz.prog 114 Tryz.f114:=⟨Tryz.func114,rfl,by kernel_rfl⟩
theorem iZ (a0:List Bool) (a1:Bool) {r:Int} (H:cN a0 a1=some r):LJ.Spec Tryz.prog 135 [.d (slT bu a0), .d (.bool a1)] [] (.d (.int .i64 r)) []:=by
 refine LJ.Spec.code Tryz.func135 rfl 19 rfl rfl [] rfl fun w0 F0 S0 B0=>?_
 unfold cN at H
 refine G (R 1 rfl (NS (G (R 3 rfl (NQ (Wb (Wl (ι:= {x:Nat×Int //bm a0 a1 x.1 x.2=some r}) (fun x=>[(0, .d (slT bu a0)),(1, .d (.bool a1)),(7, .d (.int .i64 (a0.length:Int))),(8, .d (.int .i64 x.1.2))]) (fun x=>[]) (fun x=>x.1.1) ⟨(fuel,0),H⟩ (Lm p4 tv) fun x=>?_)))))))
 obtain ⟨⟨k2,s1⟩,H⟩:=x
 rcases k2 with _ | k2
 ·exact aP H
 rw [bm] at H
 refine G (R 1 rfl (NS (Wd rfl H (fun H=>?_) (fun H=>?_))))
 ·refine Wk (Qn (Ws (Wb (G (R 2 rfl (NS (Wg ?_)))))))
  obtain ⟨g4,H⟩:=av H
  refine RS 6 rfl ⟨⟨(an g4).1,(an g4).2,rfl⟩,tv⟩ (NQ (Wd rfl H (fun H=>?_) (fun H=>?_)))
  ·refine G (R 2 rfl (NQ (Wt (QB.r (QT.r (QT.r (QB.r (QT.r ?_))))))))
   cases H
   exact Ea rfl rfl rfl tv
  refine Wk (Qb (Qn ?_))
  exact Wg (R 2 rfl (NQ (⟨⟨(k2,IntKind.i64.wrap (s1+1)),H⟩,Z,Lm p4 tv⟩)))
 refine WC.exit (Qx (Qx (Qh (Qn ?_))))
 refine G (R 1 rfl (NQ (Wt ?_)))
 cases H
 exact Ea rfl rfl rfl tv
theorem i3:aD Tryz.prog 135 Tryz.f135:=⟨Tryz.func135,rfl,by kernel_rfl⟩
theorem nr (a0:aF) {r:Int} (H:bT a0=some r):LJ.Spec Tryz.prog 115 [.ptr 0 0] [(0, .box 191 [.d (slT ah a0.p.Decls), .d (slT ab a0.p.Waits), .d (slT aj a0.p.Funcs), .d (slT aB a0.code), .own 1, .own 2, .d (.int .i64 a0.at_), .d (.int .i64 a0.err)]),(1, .row 3 1 (a0.depth.map aE)),(2, .row 4 1 (a0.next.map bu))] (.d (.int .i64 r)) [(1, .row 3 1 (a0.depth.map aE)),(2, .row 4 1 (a0.next.map bu)),(0, .box 191 [.d (slT ah a0.p.Decls), .d (slT ab a0.p.Waits), .d (slT aj a0.p.Funcs), .d (slT aB a0.code), .own 1, .own 2, .d (.int .i64 a0.at_), .d (.int .i64 a0.err)])]:=by
 refine LJ.Spec.code Tryz.func115 rfl 8 rfl rfl [0] rfl fun w0 F0 S0 B0=>?_
 unfold bT at H
 refine G (R 1 rfl (N (R 4 rfl ?_)))
 obtain ⟨x1,hx1,H⟩:=al H
 refine WL.callB (iZ _ _ hx1) i3 rfl (.own bu a0.next rfl rfl (.op rfl .nil)) rfl rfl rfl rfl (R 1 rfl (NQ (Wt ?_)))
 cases H
 exact Ea rfl rfl rfl p3
theorem jn (n0 n1 n2:Nat) (hn:cD [n0,n1,n2]=true) (a0:aF) {r:Int} (H:bT a0=some r):LJ.Spec Tryz.prog 115 [.ptr n0 0] [(n0, .box 191 [.d (slT ah a0.p.Decls), .d (slT ab a0.p.Waits), .d (slT aj a0.p.Funcs), .d (slT aB a0.code), .own n1, .own n2, .d (.int .i64 a0.at_), .d (.int .i64 a0.err)]),(n1, .row 3 1 (a0.depth.map aE)),(n2, .row 4 1 (a0.next.map bu))] (.d (.int .i64 r)) [(n1, .row 3 1 (a0.depth.map aE)),(n2, .row 4 1 (a0.next.map bu)),(n0, .box 191 [.d (slT ah a0.p.Decls), .d (slT ab a0.p.Waits), .d (slT aj a0.p.Funcs), .d (slT aB a0.code), .own n1, .own n2, .d (.int .i64 a0.at_), .d (.int .i64 a0.err)])]:=
 Spec.names [n0,n1,n2] hn rfl rfl (nr a0 H)
theorem jo:aD Tryz.prog 115 Tryz.f115:=⟨Tryz.func115,rfl,by kernel_rfl⟩
theorem rY (a0:Int) {r:Int} (H:jf a0=some r):LJ.Spec Tryz.prog 149 [.d (.int .i64 a0)] [] (.d (.int .i64 r)) []:=by
 refine LJ.Spec.code Tryz.func149 rfl 39 rfl rfl [] rfl fun w0 F0 S0 B0=>?_
 unfold jf at H
 refine G (R 1 rfl (NS (G (R 1 rfl (NQ (Wb (Ws (G (R 2 rfl (NQ (Wc rfl (fun h1=>?_) (fun h1=>?_))))))))))))
 ·replace H:=of_t H h1
  refine WC.known (g:=4) true rfl h1 (Wk (Qn (Wc rfl (fun h=>?_) (fun h=>absurd h (by decide)))))
  refine G (R 1 rfl (NQ (Wt (QB.r (QT.r ?_)))))
  cases H
  exact Ea rfl rfl rfl tv
 replace H:=of_f H h1
 refine G (R 2 rfl (NQ (Wc rfl (fun h2=>?_) (fun h2=>?_))))
 ·replace H:=of_t H h2
  refine WC.known (g:=4) true rfl h2 (Wk (Qn (Wc rfl (fun h=>?_) (fun h=>absurd h (by decide)))))
  refine G (R 1 rfl (NQ (Wt (QB.r (QT.r ?_)))))
  cases H
  exact Ea rfl rfl rfl tv
 replace H:=of_f H h2
 refine G (R 2 rfl (NQ (Wc rfl (fun h3=>?_) (fun h3=>?_))))
 ·replace H:=of_t H h3
  refine WC.known (g:=4) true rfl h3 (Wk (Qn (Wc rfl (fun h=>?_) (fun h=>absurd h (by decide)))))
  refine G (R 1 rfl (NQ (Wt (QB.r (QT.r ?_)))))
  cases H
  exact Ea rfl rfl rfl tv
 replace H:=of_f H h3
 refine Wg (R 2 rfl (NQ (Wd rfl H (fun H=>?_) (fun H=>?_))))
 ·refine G (R 1 rfl (NQ (Wt (QB.r (QT.r ?_)))))
  cases H
  exact Ea rfl rfl rfl tv
 refine Ws (G (R 2 rfl (NQ (Wc rfl (fun h5=>?_) (fun h5=>?_)))))
 ·replace H:=of_t H h5
  refine WC.known (g:=9) true rfl h5 (Wk (Qn (Wc rfl (fun h=>?_) (fun h=>absurd h (by decide)))))
  refine G (R 1 rfl (NQ (Wt (QB.r (QT.r ?_)))))
  cases H
  exact Ea rfl rfl rfl tv
 replace H:=of_f H h5
 refine Wg (R 2 rfl (NQ (Wd rfl H (fun H=>?_) (fun H=>?_))))
 ·refine G (R 1 rfl (NQ (Wt (QB.r (QT.r ?_)))))
  cases H
  exact Ea rfl rfl rfl tv
 refine G (R 2 rfl (NQ (Wd rfl H (fun H=>?_) (fun H=>?_))))
 ·refine G (R 1 rfl (NQ (Wt (QB.r (QT.r ?_)))))
  cases H
  exact Ea rfl rfl rfl tv
 refine G (R 2 rfl (NQ (Wd rfl H (fun H=>?_) (fun H=>?_))))
 ·refine G (R 1 rfl (NQ (Wt (QB.r (QT.r ?_)))))
  cases H
  exact Ea rfl rfl rfl tv
 refine Ws (G (R 2 rfl (NQ (Wc rfl (fun h9=>?_) (fun h9=>?_)))))
 ·replace H:=of_t H h9
  refine WC.known (g:=16) true rfl h9 (Wk (Qn (Wc rfl (fun h=>?_) (fun h=>absurd h (by decide)))))
  refine G (R 1 rfl (NQ (Wt (QB.r (QT.r ?_)))))
  cases H
  exact Ea rfl rfl rfl tv
 replace H:=of_f H h9
 refine Wg (R 2 rfl (NQ (Wd rfl H (fun H=>?_) (fun H=>?_))))
 ·refine G (R 1 rfl (NQ (Wt (QB.r (QT.r ?_)))))
  cases H
  exact Ea rfl rfl rfl tv
 refine Ws (G (R 2 rfl (NQ (Wc rfl (fun h11=>?_) (fun h11=>?_)))))
 ·replace H:=of_t H h11
  refine WC.known (g:=19) true rfl h11 (Wk (Qn (Wc rfl (fun h=>?_) (fun h=>absurd h (by decide)))))
  refine G (R 1 rfl (NQ (Wt (QB.r (QT.r ?_)))))
  cases H
  exact Ea rfl rfl rfl tv
 replace H:=of_f H h11
 refine G (R 2 rfl (NQ (Wc rfl (fun h12=>?_) (fun h12=>?_))))
 ·replace H:=of_t H h12
  refine WC.known (g:=19) true rfl h12 (Wk (Qn (Wc rfl (fun h=>?_) (fun h=>absurd h (by decide)))))
  refine G (R 1 rfl (NQ (Wt (QB.r (QT.r ?_)))))
  cases H
  exact Ea rfl rfl rfl tv
 replace H:=of_f H h12
 refine G (R 2 rfl (NQ (Wc rfl (fun h13=>?_) (fun h13=>?_))))
 ·replace H:=of_t H h13
  refine WC.known (g:=19) true rfl h13 (Wk (Qn (Wc rfl (fun h=>?_) (fun h=>absurd h (by decide)))))
  refine G (R 1 rfl (NQ (Wt (QB.r (QT.r ?_)))))
  cases H
  exact Ea rfl rfl rfl tv
 replace H:=of_f H h13
 refine G (R 2 rfl (NQ (Wc rfl (fun h14=>?_) (fun h14=>?_))))
 ·replace H:=of_t H h14
  refine WC.known (g:=19) true rfl h14 (Wk (Qn (Wc rfl (fun h=>?_) (fun h=>absurd h (by decide)))))
  refine G (R 1 rfl (NQ (Wt (QB.r (QT.r ?_)))))
  cases H
  exact Ea rfl rfl rfl tv
 replace H:=of_f H h14
 refine G (R 2 rfl (NQ (Wc rfl (fun h15=>?_) (fun h15=>?_))))
 ·replace H:=of_t H h15
  refine WC.known (g:=19) true rfl h15 (Wk (Qn (Wc rfl (fun h=>?_) (fun h=>absurd h (by decide)))))
  refine G (R 1 rfl (NQ (Wt (QB.r (QT.r ?_)))))
  cases H
  exact Ea rfl rfl rfl tv
 replace H:=of_f H h15
 refine G (R 2 rfl (NQ (Wc rfl (fun h16=>?_) (fun h16=>?_))))
 ·replace H:=of_t H h16
  refine WC.known (g:=19) true rfl h16 (Wk (Qn (Wc rfl (fun h=>?_) (fun h=>absurd h (by decide)))))
  refine G (R 1 rfl (NQ (Wt (QB.r (QT.r ?_)))))
  cases H
  exact Ea rfl rfl rfl tv
 replace H:=of_f H h16
 refine G (R 2 rfl (NQ (Wc rfl (fun h17=>?_) (fun h17=>?_))))
 ·replace H:=of_t H h17
  refine WC.known (g:=19) true rfl h17 (Wk (Qn (Wc rfl (fun h=>?_) (fun h=>absurd h (by decide)))))
  refine G (R 1 rfl (NQ (Wt (QB.r (QT.r ?_)))))
  cases H
  exact Ea rfl rfl rfl tv
 replace H:=of_f H h17
 refine G (R 2 rfl (NQ (Wc rfl (fun h18=>?_) (fun h18=>?_))))
 ·replace H:=of_t H h18
  refine WC.known (g:=19) true rfl h18 (Wk (Qn (Wc rfl (fun h=>?_) (fun h=>absurd h (by decide)))))
  refine G (R 1 rfl (NQ (Wt (QB.r (QT.r ?_)))))
  cases H
  exact Ea rfl rfl rfl tv
 replace H:=of_f H h18
 refine G (R 2 rfl (NQ (Wc rfl (fun h19=>?_) (fun h19=>?_))))
 ·replace H:=of_t H h19
  refine WC.known (g:=19) true rfl h19 (Wk (Qn (Wc rfl (fun h=>?_) (fun h=>absurd h (by decide)))))
  refine G (R 1 rfl (NQ (Wt (QB.r (QT.r ?_)))))
  cases H
  exact Ea rfl rfl rfl tv
 replace H:=of_f H h19
 refine G (R 2 rfl (NQ (Wc rfl (fun h20=>?_) (fun h20=>?_))))
 ·replace H:=of_t H h20
  refine WC.known (g:=19) true rfl h20 (Wk (Qn (Wc rfl (fun h=>?_) (fun h=>absurd h (by decide)))))
  refine G (R 1 rfl (NQ (Wt (QB.r (QT.r ?_)))))
  cases H
  exact Ea rfl rfl rfl tv
 replace H:=of_f H h20
 refine Wg (R 2 rfl (NQ (Wd rfl H (fun H=>?_) (fun H=>?_))))
 ·refine G (R 1 rfl (NQ (Wt (QB.r (QT.r ?_)))))
  cases H
  exact Ea rfl rfl rfl tv
 refine Wk (Qb (Qn ?_))
 refine Ws (G (R 3 rfl (Wx 2 2 true tk sg0 rfl rfl (fun _=>tv) (RS 1 rfl ⟨by first | exact id | exact fun h=>by rw [h];rfl | simp_all,tv⟩ (NQ (Wd rfl H (fun H=>?_) (fun H=>?_)))))))
 ·refine G (R 1 rfl (NQ (Wt (QT.r ?_))))
  cases H
  exact Ea rfl rfl rfl tv
 refine Wk (Qn (Ws (G (R 1 rfl ?_))))
 obtain ⟨x23,hx23,H⟩:=al H
 refine Cl [] (lj _ hx23) lk rfl tv rfl (NQ (Wd rfl H (fun H=>?_) (fun H=>?_)))
 ·refine G (R 1 rfl (NQ (Wt (QT.r ?_))))
  cases H
  exact Ea rfl rfl rfl tv
 refine Wk (Qn (G (R 1 rfl (NQ (Wt ?_)))))
 cases H
 exact Ea rfl rfl rfl tv
theorem rZ:aD Tryz.prog 149 Tryz.f149:=⟨Tryz.func149,rfl,by kernel_rfl⟩
theorem gU (a0:aq) (a1:Int) {r:Int} (H:fI a0 a1=some r):LJ.Spec Tryz.prog 136 [.d (.agg [.int .i64 a0.Op, .int .i64 a0.A, .int .i64 a0.B]), .d (.int .i64 a1)] [] (.d (.int .i64 r)) []:=by
 refine LJ.Spec.code Tryz.func136 rfl 35 rfl rfl [] rfl fun w0 F0 S0 B0=>?_
 unfold fI at H
 refine G (Ef 102 rfl (R 1 rfl (N (R 1 rfl (NS (G (R 2 rfl (NQ (Wb ?_)))))))))
 obtain ⟨K1,hK1,H⟩:=da H
 refine WC.cut (fun E m=>∃ s2:Int,K1 s2=some r∧hJ E m [(2, .ptr 102 0),(5, .d (.int .i64 s2))] [(102, .box 100 [.d (.int .i64 a0.Op), .d (.int .i64 a0.A), .d (.int .i64 a0.B)])]) ?_ ?_
 ·refine Wb (Ws (Wb (Ws (Wb (Ws (Ws (G (R 2 rfl (NQ (Wd rfl H (fun H=>?_) (fun H=>?_)))))))))))
  ·refine WC.exit (Qx (Qx (Qh (Qn ?_))))
   refine Ws (G (R 2 rfl (NQ (Wt (QT.r (QB.r (QT.r (QB.r (QT.r (QB.r (QT.r ?_)))))))))))
   cases H
   exact Ea rfl rfl rfl tv
  refine Wk (Qn (Ws (G (R 2 rfl (NQ (Wd rfl H (fun H=>?_) (fun H=>?_)))))))
  ·refine WC.exit (Qx (Qx (QB.miss rfl (Qx (Qh (Qn ?_))))))
   refine Wg (R 3 rfl (Wn (Qb (Qn ?_))))
   exact ⟨IntKind.i64.wrap ((0:Int)+1),H,Lw q2 p1⟩
  refine Wk (Qn (G (R 2 rfl (NQ (Wd rfl H (fun H=>?_) (fun H=>?_))))))
  ·refine WC.exit (Qx (QB.miss rfl (Qx (QB.miss rfl (Qx (Qh (Qn ?_)))))))
   exact ⟨0,H,Lw q2 p1⟩
  refine Wk (Qn (WC.exit (QB.miss rfl (Qx (QB.miss rfl (Qx (QB.miss rfl (Qx (Qh (Qn ?_))))))))))
  refine Ws (G (R 2 rfl ?_))
  obtain ⟨x6,hx6,H⟩:=al H
  refine Cl [] (rY _ hx6) rZ rfl tv rfl (NQ (Wb ?_))
  obtain ⟨K7,hK7,H⟩:=da H
  refine WC.cut (fun E m=>∃ s8:Int,K7 s8=some r∧hJ E m [(5, .d (.int .i64 s8))] []) ?_ ?_
  ·refine Wb (Ws (Wb (Ws (Ws (G (R 2 rfl (NQ (Wd rfl H (fun H=>?_) (fun H=>?_)))))))))
   ·refine WC.exit (Qx (Qx (Qh (Qn ?_))))
    refine Wg (R 3 rfl (Wn (Qb (Qn ?_))))
    exact ⟨IntKind.i64.wrap ((0:Int)+1),H,Lw q1 tv⟩
   refine Wk (Qn (Ws (G (R 2 rfl (NQ (Wc rfl (fun h10=>?_) (fun h10=>?_)))))))
   ·replace H:=of_t H h10
    refine WC.known (g:=26) true rfl h10 (Wk (Qn (Wc rfl (fun h=>?_) (fun h=>absurd h (by decide)))))
    refine WC.exit (Qx (QB.miss rfl (Qx (Qh (Qn ?_)))))
    exact ⟨0,H,Lw q1 tv⟩
   replace H:=of_f H h10
   refine G (R 2 rfl (NQ (Wc rfl (fun h11=>?_) (fun h11=>?_))))
   ·replace H:=of_t H h11
    refine WC.known (g:=26) true rfl h11 (Wk (Qn (Wc rfl (fun h=>?_) (fun h=>absurd h (by decide)))))
    refine WC.exit (Qx (QB.miss rfl (Qx (Qh (Qn ?_)))))
    exact ⟨0,H,Lw q1 tv⟩
   replace H:=of_f H h11
   refine Wg (R 2 rfl (NQ (Wd rfl H (fun H=>?_) (fun H=>?_))))
   ·refine WC.exit (Qx (QB.miss rfl (Qx (Qh (Qn ?_)))))
    exact ⟨0,H,Lw q1 tv⟩
   refine Wk (Qn (WC.exit (QB.miss rfl (Qx (QB.miss rfl (Qx (Qh (Qn ?_))))))))
   refine G (R 2 rfl (NQ (Wt ?_)))
   cases H
   exact Ea rfl rfl rfl tv
  ·rintro E m ⟨s8,H,hl⟩
   refine WC.lessW hl ?_
   replace H:=(hK7 _).symm.trans H
   try dsimp only at H
   refine G (R 3 rfl (NQ (WC.exit (Qh (Qn ?_)))))
   refine G (R 2 rfl (NQ (Wt ?_)))
   cases H
   exact Ea rfl rfl rfl tv
 ·rintro E m ⟨s2,H,hl⟩
  refine WC.lessW hl ?_
  replace H:=(hK1 _).symm.trans H
  try dsimp only at H
  refine Ws (G (R 5 rfl (NQ (Wt (QT.r (QB.r (QT.r ?_)))))))
  cases H
  exact Ea rfl rfl rfl tv
theorem gV:aD Tryz.prog 136 Tryz.f136:=⟨Tryz.func136,rfl,by kernel_rfl⟩
theorem qC (a0:Int) {r:Int} (H:cP a0=some r):LJ.Spec Tryz.prog 137 [.d (.int .i64 a0)] [] (.d (.int .i64 r)) []:=by
 refine LJ.Spec.code Tryz.func137 rfl 12 rfl rfl [] rfl fun w0 F0 S0 B0=>?_
 unfold cP at H
 refine G (R 1 rfl (NS (G (R 1 rfl ?_))))
 obtain ⟨x1,hx1,H⟩:=al H
 refine Cl [] (rY _ hx1) rZ rfl tv rfl (NQ (Wb (Ws (G (R 2 rfl (NQ (Wc rfl (fun h2=>?_) (fun h2=>?_))))))))
 ·replace H:=of_t H h2
  refine WC.known (g:=5) true rfl h2 (Wk (Qn (Wc rfl (fun h=>?_) (fun h=>absurd h (by decide)))))
  refine G (R 1 rfl (NQ (Wt (QB.r (QT.r ?_)))))
  cases H
  exact Ea rfl rfl rfl tv
 replace H:=of_f H h2
 refine Wg (R 2 rfl (NQ (Wd rfl H (fun H=>?_) (fun H=>?_))))
 ·refine G (R 1 rfl (NQ (Wt (QB.r (QT.r ?_)))))
  cases H
  exact Ea rfl rfl rfl tv
 refine Ws (G (R 2 rfl (NQ (Wc rfl (fun h4=>?_) (fun h4=>?_)))))
 ·replace H:=of_t H h4
  refine WC.known (g:=8) true rfl h4 (Wk (Qn (Wc rfl (fun h=>?_) (fun h=>absurd h (by decide)))))
  refine G (R 1 rfl (NQ (Wt (QB.r (QT.r ?_)))))
  cases H
  exact Ea rfl rfl rfl tv
 replace H:=of_f H h4
 refine G (R 2 rfl (NQ (Wc rfl (fun h5=>?_) (fun h5=>?_))))
 ·replace H:=of_t H h5
  refine WC.known (g:=8) true rfl h5 (Wk (Qn (Wc rfl (fun h=>?_) (fun h=>absurd h (by decide)))))
  refine G (R 1 rfl (NQ (Wt (QB.r (QT.r ?_)))))
  cases H
  exact Ea rfl rfl rfl tv
 replace H:=of_f H h5
 refine Wg (R 2 rfl (NQ (Wd rfl H (fun H=>?_) (fun H=>?_))))
 ·refine G (R 1 rfl (NQ (Wt (QB.r (QT.r ?_)))))
  cases H
  exact Ea rfl rfl rfl tv
 refine Wk (Qb (Qn ?_))
 refine G (R 1 rfl (NQ (Wt ?_)))
 cases H
 exact Ea rfl rfl rfl tv
theorem qD:aD Tryz.prog 137 Tryz.f137:=⟨Tryz.func137,rfl,by kernel_rfl⟩
theorem va (a0:Int) {r:Bool} (H:kB a0=some r):LJ.Spec Tryz.prog 138 [.d (.int .i64 a0)] [] (.d (.bool r)) []:=by
 refine LJ.Spec.code Tryz.func138 rfl 13 rfl rfl [] rfl fun w0 F0 S0 B0=>?_
 unfold kB at H
 refine G (R 1 rfl (N (R 1 rfl ?_)))
 obtain ⟨x1,hx1,H⟩:=al H
 refine Cl [] (lj _ hx1) lk rfl tv rfl (R 1 rfl (Wx 2 2 true tk sg0 rfl rfl (fun _=>tv) (RS 2 rfl ⟨by first | exact id | exact fun h=>by rw [h];rfl | simp_all,tv⟩ (Wx 2 6 true tk sg0 rfl rfl (fun _=>tv) (RS 2 rfl ⟨by first | exact id | exact fun h=>by rw [h];rfl | simp_all,tv⟩ (NQ (Wt ?_)))))))
 cases H
 exact Ea rfl rfl rfl tv
theorem vb:aD Tryz.prog 138 Tryz.f138:=⟨Tryz.func138,rfl,by kernel_rfl⟩
theorem nS (a0:aF) (a1:Int) {r:aF} (H:cy a0 a1=some r):LJ.Spec Tryz.prog 116 [.ptr 0 0, .d (.int .i64 a1)] [(0, .box 191 [.d (slT ah a0.p.Decls), .d (slT ab a0.p.Waits), .d (slT aj a0.p.Funcs), .d (slT aB a0.code), .own 1, .own 2, .d (.int .i64 a0.at_), .d (.int .i64 a0.err)]),(1, .row 3 1 (a0.depth.map aE)),(2, .row 4 1 (a0.next.map bu))] (.tup []) [(1, .row 3 1 (r.depth.map aE)),(2, .row 4 1 (r.next.map bu)),(0, .box 191 [.d (slT ah r.p.Decls), .d (slT ab r.p.Waits), .d (slT aj r.p.Funcs), .d (slT aB r.code), .own 1, .own 2, .d (.int .i64 r.at_), .d (.int .i64 r.err)])]:=by
 refine LJ.Spec.code Tryz.func116 rfl 90 rfl rfl [0] rfl fun w0 F0 S0 B0=>?_
 unfold cy at H
 refine G ?_
 obtain ⟨g1,H⟩:=av H
 refine RS 7 rfl ⟨⟨(an g1).1,(an g1).2,rfl⟩,tv⟩ (Wa 104 tk rfl rfl rfl (Ef 0 rfl (R 1 rfl (NS (Ws (Hp (.one 0 true (.one 1 true (.one 2 true (.one 3 true (.one 4 true (.one 5 true (.one 6 true (.one 7 true (.one 8 true (.one 9 true (.one 10 true (.one 11 true (.one 12 true (.one 13 true .done)))))))))))))) [0,104] [0,104] rfl (by kernel_rfl) rfl (by kernel_rfl) rfl rfl (fun _ h=>h) rfl rfl rfl (fun _ _ _ h=>h) fun FK NK wK K=>(Hr 4 tk rfl rfl rfl rfl tv (WH.sect 9 3 true tk rfl rfl rfl rfl (fun _=>tv) (Hr 1 tk rfl rfl rfl rfl ⟨by first | exact id | exact fun h=>by rw [h];rfl | simp_all,tv⟩ (WH.nil rfl (Qn (Wd rfl H (fun H=>?_) (fun H=>?_)))))))))))))
 ·refine Hp (.one 0 true (.one 1 true (.one 2 true (.one 3 true (.one 4 true (.one 5 true (.one 6 true (.one 7 true (.one 8 true (.one 9 true (.one 10 true .done))))))))))) [0,104] [0,104] rfl (by kernel_rfl) rfl (by kernel_rfl) rfl rfl (fun _ h=>h) rfl rfl rfl (fun _ _ _ h=>h) fun FK NK wK K=>?_
  obtain ⟨g3,H⟩:=av H
  refine Hr 11 tk rfl rfl rfl rfl ⟨⟨(an g3).1,(an g3).2,rfl⟩,tv⟩ (WH.nil rfl (Qn (Ws ?_)))
  obtain ⟨g3_5_1,H⟩:=av H
  obtain ⟨x3_9_1,hx3_9_1,H⟩:=al H
  refine WC.heldF [(0, .ptr 0 0),(1, .d (.int .i64 a1)),(4, .ptr 104 0),(6, .d (.int .i64 (IntKind.i64.wrap ((a0.depth.getD a1.toNat default) - x3_9_1))))] [(0, .box 191 [.d (slT ah a0.p.Decls), .d (slT ab a0.p.Waits), .d (slT aj a0.p.Funcs), .d (slT aB a0.code), .own 1, .own 2, .d (.int .i64 a0.at_), .d (.int .i64 a0.err)]),(1, .row 3 1 (a0.depth.map aE)),(2, .row 4 1 (a0.next.map bu)),(104, .box 100 [.d (.int .i64 ((a0.code.getD a1.toNat default).Op)), .d (.int .i64 ((a0.code.getD a1.toNat default).A)), .d (.int .i64 ((a0.code.getD a1.toNat default).B))])] (sT 0 (sT 1 (sT 2 (sT 4 (sT 7 (sT 8 (fk (sf 3 (fk (sf 5 (fk (sf 6 (sf 9 (sT 10 (sT 11 sd)))) (sf 9 (sf 6 (sT 10 (sT 11 sd)))))) (sf 9 (sf 5 (sf 6 (sT 10 (sT 11 sd))))))) (sf 9 (sf 3 (sf 5 (sf 6 (sT 10 (sT 11 sd))))))))))))) [0,104] [0,104] rfl (by kernel_rfl) rfl (by kernel_rfl) rfl rfl (fun _ h=>h) rfl rfl rfl (fun FK NK wK K=>?_) ?_
  ·refine Hr 6 tk rfl rfl rfl rfl tv (WH.fork ?_ ?_)
   ·refine WH.val tk rfl rfl rfl rfl rfl tv rfl rfl (WH.fork ?_ ?_)
    ·refine WH.yvs rfl (LJ.Y.idxRel aE a0.depth a1 tk rfl rfl rfl rfl rfl (an g3_5_1)) rfl rfl rfl rfl rfl (WH.fork ?_ ?_)
     ·exact WH.yvs rfl (LJ.Y.loadRel aE a0.depth a1 0 rfl rfl (fun _=>rfl) rfl (by kernel_rfl) rfl (by first | exact an g3_5_1 | (have:=an g3_5_1;simpa only [List.length_set,List.length_map] using this))) rfl rfl rfl rfl rfl (WH.call [] rfl (gU _ _ hx3_9_1) gV rfl rfl tv rfl rfl rfl rfl rfl (Hr 2 tk rfl rfl rfl rfl tv (Hn rfl (Lw q4 p4))))
     ·exact WH.call [] rfl (gU _ _ hx3_9_1) gV rfl rfl tv rfl rfl rfl rfl rfl (WH.yvs rfl (LJ.Y.loadRel aE a0.depth a1 0 rfl rfl (fun _=>rfl) rfl (by kernel_rfl) rfl (by first | exact an g3_5_1 | (have:=an g3_5_1;simpa only [List.length_set,List.length_map] using this))) rfl rfl rfl rfl rfl (Hr 2 tk rfl rfl rfl rfl tv (Hn rfl (Lw q4 p4))))
    ·exact WH.call [] rfl (gU _ _ hx3_9_1) gV rfl rfl tv rfl rfl rfl rfl rfl (WH.yvs rfl (LJ.Y.idxRel aE a0.depth a1 tk rfl rfl rfl rfl rfl (an g3_5_1)) rfl rfl rfl rfl rfl (WH.yvs rfl (LJ.Y.loadRel aE a0.depth a1 0 rfl rfl (fun _=>rfl) rfl (by kernel_rfl) rfl (by first | exact an g3_5_1 | (have:=an g3_5_1;simpa only [List.length_set,List.length_map] using this))) rfl rfl rfl rfl rfl (Hr 2 tk rfl rfl rfl rfl tv (Hn rfl (Lw q4 p4)))))
   ·exact WH.call [] rfl (gU _ _ hx3_9_1) gV rfl rfl tv rfl rfl rfl rfl rfl (WH.val tk rfl rfl rfl rfl rfl tv rfl rfl (WH.yvs rfl (LJ.Y.idxRel aE a0.depth a1 tk rfl rfl rfl rfl rfl (an g3_5_1)) rfl rfl rfl rfl rfl (WH.yvs rfl (LJ.Y.loadRel aE a0.depth a1 0 rfl rfl (fun _=>rfl) rfl (by kernel_rfl) rfl (by first | exact an g3_5_1 | (have:=an g3_5_1;simpa only [List.length_set,List.length_map] using this))) rfl rfl rfl rfl rfl (Hr 2 tk rfl rfl rfl rfl tv (Hn rfl (Lw q4 p4))))))
  ·refine Qn (Ws (G (R 2 rfl (NQ (Wd rfl H (fun H=>?_) (fun H=>?_))))))
   ·refine G (R 2 rfl ?_)
    obtain ⟨x5,hx5,H⟩:=al H
    refine Cl [1,2] (cT 0 1 2 rfl _ _ _ hx5) cU rfl p3 rfl (NQ (Wt (QT.r ?_)))
    cases H
    exact Ea rfl rfl rfl p3
   refine Wk (Qn (Ws (G (R 3 rfl ?_))))
   obtain ⟨x6,hx6,H⟩:=al H
   refine Cl [] (qC _ hx6) qD rfl tv rfl (R 2 rfl (N (R 2 rfl (NQ (Wd rfl H (fun H=>?_) (fun H=>?_))))))
   ·refine G (R 2 rfl ?_)
    obtain ⟨x8,hx8,H⟩:=al H
    refine Cl [1,2] (cT 0 1 2 rfl _ _ _ hx8) cU rfl p3 rfl (NQ (Wt (QT.r ?_)))
    cases H
    exact Ea rfl rfl rfl p3
   refine Wk (Qn (Ws (G (R 2 rfl ?_))))
   obtain ⟨x9,hx9,H⟩:=al H
   refine Cl [] (va _ hx9) vb rfl tv rfl (R 1 rfl (WL.split (g:=67) rfl (fun h10=>?_) (fun h10=>?_)))
   ·replace H:=of_t H h10
    refine WL.grun 5 3 true 67 tk sg0 rfl rfl rfl rfl tv ?_
    obtain ⟨x11,hx11,H⟩:=al H
    refine WL.gcall [1,2] (cB 0 1 2 rfl _ _ _ _ hx11) cC rfl rfl p3 rfl rfl rfl rfl rfl rfl (WL.grun 1 3 true 67 tk sg0 rfl rfl rfl rfl tv (WL.pickT rfl rfl rfl rfl rfl rfl (NQ (Wd rfl H (fun H=>?_) (fun H=>?_)))))
    ·refine Wt (QT.r ?_)
     cases H
     exact Ea rfl rfl rfl p3
    refine Wk (Qn (G (R 4 rfl (Wx 3 3 false tk sg0 rfl rfl (fun _=>tv) (RS 1 rfl ⟨by first | exact id | exact fun h=>by rw [h];rfl | simp_all,tv⟩ (NQ (Wd rfl H (fun H=>?_) (fun H=>?_))))))))
    ·refine Wg (R 5 rfl ?_)
     obtain ⟨x14,hx14,H⟩:=al H
     refine Cl [1,2] (cB 0 1 2 rfl _ _ _ _ hx14) cC rfl p3 rfl (Wn ?_)
     cases H
     exact Ends.auton rfl rfl rfl p3
    refine Wk ?_
    cases H
    exact Ends.auton rfl rfl rfl p3
   ·replace H:=of_f H h10
    refine WL.gskips 7 3 true 67 rfl rfl rfl rfl (WL.pickF rfl rfl rfl rfl rfl rfl (NQ (Wc rfl (fun h=>absurd h (by decide)) (fun h=>?_))))
    refine Wk (Qn (G (R 4 rfl (Wx 3 3 false tk sg0 rfl rfl (fun _=>tv) (RS 1 rfl ⟨by first | exact id | exact fun h=>by rw [h];rfl | simp_all,tv⟩ (NQ (Wd rfl H (fun H=>?_) (fun H=>?_))))))))
    ·refine Wg (R 5 rfl ?_)
     obtain ⟨x16,hx16,H⟩:=al H
     refine Cl [1,2] (cB 0 1 2 rfl _ _ _ _ hx16) cC rfl p3 rfl (Wn ?_)
     cases H
     exact Ends.auton rfl rfl rfl p3
    refine Wk ?_
    cases H
    exact Ends.auton rfl rfl rfl p3
 refine Wk (Qn (Ws ?_))
 obtain ⟨g3_5_1,H⟩:=av H
 obtain ⟨x3_9_1,hx3_9_1,H⟩:=al H
 refine WC.heldF [(0, .ptr 0 0),(1, .d (.int .i64 a1)),(4, .ptr 104 0),(6, .d (.int .i64 (IntKind.i64.wrap ((a0.depth.getD a1.toNat default) - x3_9_1))))] [(0, .box 191 [.d (slT ah a0.p.Decls), .d (slT ab a0.p.Waits), .d (slT aj a0.p.Funcs), .d (slT aB a0.code), .own 1, .own 2, .d (.int .i64 a0.at_), .d (.int .i64 a0.err)]),(1, .row 3 1 (a0.depth.map aE)),(2, .row 4 1 (a0.next.map bu)),(104, .box 100 [.d (.int .i64 ((a0.code.getD a1.toNat default).Op)), .d (.int .i64 ((a0.code.getD a1.toNat default).A)), .d (.int .i64 ((a0.code.getD a1.toNat default).B))])] (sT 0 (sT 1 (sT 2 (sT 4 (sT 7 (sT 8 (fk (sf 3 (fk (sf 5 (fk (sf 6 (sf 9 (sT 10 (sT 11 sd)))) (sf 9 (sf 6 (sT 10 (sT 11 sd)))))) (sf 9 (sf 5 (sf 6 (sT 10 (sT 11 sd))))))) (sf 9 (sf 3 (sf 5 (sf 6 (sT 10 (sT 11 sd))))))))))))) [0,104] [0,104] rfl (by kernel_rfl) rfl (by kernel_rfl) rfl rfl (fun _ h=>h) rfl rfl rfl (fun FK NK wK K=>?_) ?_
 ·refine Hr 6 tk rfl rfl rfl rfl tv (WH.fork ?_ ?_)
  ·refine WH.val tk rfl rfl rfl rfl rfl tv rfl rfl (WH.fork ?_ ?_)
   ·refine WH.yvs rfl (LJ.Y.idxRel aE a0.depth a1 tk rfl rfl rfl rfl rfl (an g3_5_1)) rfl rfl rfl rfl rfl (WH.fork ?_ ?_)
    ·exact WH.yvs rfl (LJ.Y.loadRel aE a0.depth a1 0 rfl rfl (fun _=>rfl) rfl (by kernel_rfl) rfl (by first | exact an g3_5_1 | (have:=an g3_5_1;simpa only [List.length_set,List.length_map] using this))) rfl rfl rfl rfl rfl (WH.call [] rfl (gU _ _ hx3_9_1) gV rfl rfl tv rfl rfl rfl rfl rfl (Hr 2 tk rfl rfl rfl rfl tv (Hn rfl (Lw q4 p4))))
    ·exact WH.call [] rfl (gU _ _ hx3_9_1) gV rfl rfl tv rfl rfl rfl rfl rfl (WH.yvs rfl (LJ.Y.loadRel aE a0.depth a1 0 rfl rfl (fun _=>rfl) rfl (by kernel_rfl) rfl (by first | exact an g3_5_1 | (have:=an g3_5_1;simpa only [List.length_set,List.length_map] using this))) rfl rfl rfl rfl rfl (Hr 2 tk rfl rfl rfl rfl tv (Hn rfl (Lw q4 p4))))
   ·exact WH.call [] rfl (gU _ _ hx3_9_1) gV rfl rfl tv rfl rfl rfl rfl rfl (WH.yvs rfl (LJ.Y.idxRel aE a0.depth a1 tk rfl rfl rfl rfl rfl (an g3_5_1)) rfl rfl rfl rfl rfl (WH.yvs rfl (LJ.Y.loadRel aE a0.depth a1 0 rfl rfl (fun _=>rfl) rfl (by kernel_rfl) rfl (by first | exact an g3_5_1 | (have:=an g3_5_1;simpa only [List.length_set,List.length_map] using this))) rfl rfl rfl rfl rfl (Hr 2 tk rfl rfl rfl rfl tv (Hn rfl (Lw q4 p4)))))
  ·exact WH.call [] rfl (gU _ _ hx3_9_1) gV rfl rfl tv rfl rfl rfl rfl rfl (WH.val tk rfl rfl rfl rfl rfl tv rfl rfl (WH.yvs rfl (LJ.Y.idxRel aE a0.depth a1 tk rfl rfl rfl rfl rfl (an g3_5_1)) rfl rfl rfl rfl rfl (WH.yvs rfl (LJ.Y.loadRel aE a0.depth a1 0 rfl rfl (fun _=>rfl) rfl (by kernel_rfl) rfl (by first | exact an g3_5_1 | (have:=an g3_5_1;simpa only [List.length_set,List.length_map] using this))) rfl rfl rfl rfl rfl (Hr 2 tk rfl rfl rfl rfl tv (Hn rfl (Lw q4 p4))))))
 ·refine Qn (Ws (G (R 2 rfl (NQ (Wd rfl H (fun H=>?_) (fun H=>?_))))))
  ·refine G (R 2 rfl ?_)
   obtain ⟨x18,hx18,H⟩:=al H
   refine Cl [1,2] (cT 0 1 2 rfl _ _ _ hx18) cU rfl p3 rfl (NQ (Wt (QT.r ?_)))
   cases H
   exact Ea rfl rfl rfl p3
  refine Wk (Qn (Ws (G (R 3 rfl ?_))))
  obtain ⟨x19,hx19,H⟩:=al H
  refine Cl [] (qC _ hx19) qD rfl tv rfl (R 2 rfl (N (R 2 rfl (NQ (Wd rfl H (fun H=>?_) (fun H=>?_))))))
  ·refine G (R 2 rfl ?_)
   obtain ⟨x21,hx21,H⟩:=al H
   refine Cl [1,2] (cT 0 1 2 rfl _ _ _ hx21) cU rfl p3 rfl (NQ (Wt (QT.r ?_)))
   cases H
   exact Ea rfl rfl rfl p3
  refine Wk (Qn (Ws (G (R 2 rfl ?_))))
  obtain ⟨x22,hx22,H⟩:=al H
  refine Cl [] (va _ hx22) vb rfl tv rfl (R 1 rfl (WL.split (g:=67) rfl (fun h23=>?_) (fun h23=>?_)))
  ·replace H:=of_t H h23
   refine WL.grun 5 3 true 67 tk sg0 rfl rfl rfl rfl tv ?_
   obtain ⟨x24,hx24,H⟩:=al H
   refine WL.gcall [1,2] (cB 0 1 2 rfl _ _ _ _ hx24) cC rfl rfl p3 rfl rfl rfl rfl rfl rfl (WL.grun 1 3 true 67 tk sg0 rfl rfl rfl rfl tv (WL.pickT rfl rfl rfl rfl rfl rfl (NQ (Wd rfl H (fun H=>?_) (fun H=>?_)))))
   ·refine Wt (QT.r ?_)
    cases H
    exact Ea rfl rfl rfl p3
   refine Wk (Qn (G (R 4 rfl (Wx 3 3 false tk sg0 rfl rfl (fun _=>tv) (RS 1 rfl ⟨by first | exact id | exact fun h=>by rw [h];rfl | simp_all,tv⟩ (NQ (Wd rfl H (fun H=>?_) (fun H=>?_))))))))
   ·refine Wg (R 5 rfl ?_)
    obtain ⟨x27,hx27,H⟩:=al H
    refine Cl [1,2] (cB 0 1 2 rfl _ _ _ _ hx27) cC rfl p3 rfl (Wn ?_)
    cases H
    exact Ends.auton rfl rfl rfl p3
   refine Wk ?_
   cases H
   exact Ends.auton rfl rfl rfl p3
  ·replace H:=of_f H h23
   refine WL.gskips 7 3 true 67 rfl rfl rfl rfl (WL.pickF rfl rfl rfl rfl rfl rfl (NQ (Wc rfl (fun h=>absurd h (by decide)) (fun h=>?_))))
   refine Wk (Qn (G (R 4 rfl (Wx 3 3 false tk sg0 rfl rfl (fun _=>tv) (RS 1 rfl ⟨by first | exact id | exact fun h=>by rw [h];rfl | simp_all,tv⟩ (NQ (Wd rfl H (fun H=>?_) (fun H=>?_))))))))
   ·refine Wg (R 5 rfl ?_)
    obtain ⟨x29,hx29,H⟩:=al H
    refine Cl [1,2] (cB 0 1 2 rfl _ _ _ _ hx29) cC rfl p3 rfl (Wn ?_)
    cases H
    exact Ends.auton rfl rfl rfl p3
   refine Wk ?_
   cases H
   exact Ends.auton rfl rfl rfl p3
theorem nT (n0 n1 n2:Nat) (hn:cD [n0,n1,n2]=true) (a0:aF) (a1:Int) {r:aF} (H:cy a0 a1=some r):LJ.Spec Tryz.prog 116 [.ptr n0 0, .d (.int .i64 a1)] [(n0, .box 191 [.d (slT ah a0.p.Decls), .d (slT ab a0.p.Waits), .d (slT aj a0.p.Funcs), .d (slT aB a0.code), .own n1, .own n2, .d (.int .i64 a0.at_), .d (.int .i64 a0.err)]),(n1, .row 3 1 (a0.depth.map aE)),(n2, .row 4 1 (a0.next.map bu))] (.tup []) [(n1, .row 3 1 (r.depth.map aE)),(n2, .row 4 1 (r.next.map bu)),(n0, .box 191 [.d (slT ah r.p.Decls), .d (slT ab r.p.Waits), .d (slT aj r.p.Funcs), .d (slT aB r.code), .own n1, .own n2, .d (.int .i64 r.at_), .d (.int .i64 r.err)])]:=
 Spec.names [n0,n1,n2] hn rfl rfl (nS a0 a1 H)
theorem nU:aD Tryz.prog 116 Tryz.f116:=⟨Tryz.func116,rfl,by kernel_rfl⟩
theorem yM (a0:aa) (a1:Int) {r:(List Int)×Int×Int} (H:jg a0 a1=some r):LJ.Spec Tryz.prog 90 [.d (.agg [slT ah a0.Decls,slT ab a0.Waits,slT aj a0.Funcs]), .d (.int .i64 a1)] [] (.tup [.d (slT aE r.1), .d (.int .i64 r.2.1), .d (.int .i64 r.2.2)]) []:=by
 refine LJ.Spec.code Tryz.func90 rfl 101 rfl rfl [] rfl fun w0 F0 S0 B0=>?_
 unfold jg at H
 refine G (Ef 102 rfl (R 3 rfl (NS (G (R 3 rfl (Wx 5 2 false tk sg0 rfl rfl (fun _=>tv) (RS 1 rfl ⟨by first | exact id | exact fun h=>by rw [h];rfl | simp_all,tv⟩ (NQ (Wd rfl H (fun H=>?_) (fun H=>?_))))))))))
 ·refine G (R 3 rfl (NQ (WC.nilT 4 aE rfl (Wt (QT.r ?_)))))
  cases H
  exact Ea rfl rfl rfl tv
 refine Wk (Qn (Ws (Hp (.one 0 true (.one 1 true (.one 2 true (.one 3 true (.one 4 true (.one 5 true (.one 6 true (.one 7 true (.one 8 false (.one 9 true .done)))))))))) [102] [102] rfl (by kernel_rfl) rfl (by kernel_rfl) rfl rfl (fun _ h=>h) rfl rfl rfl (fun _ _ _ h=>h) fun FK NK wK K=>?_)))
 obtain ⟨g2,H⟩:=av H
 refine Hr 8 tk rfl rfl rfl rfl ⟨⟨(an g2).1,(an g2).2,rfl⟩,tv⟩ (He 127 tk ek rfl rfl rfl rfl tv rfl rfl (WH.mv rfl rfl rfl rfl rfl rfl rfl rfl rfl (WH.nil rfl (Qn (G (R 6 rfl ?_))))))
 obtain ⟨g3,H⟩:=av H
 refine WL.makeT (r:=134) aE (0:Int) (((a0.Funcs.getD a1.toNat default).Code).length:Int) tk ek rfl rfl rfl rfl rfl rfl rfl (pD g3) rfl rfl rfl rfl (R 2 rfl (Ef 0 rfl (NS (G (R 6 rfl (NQ (Wb (Wl (ι:= {x:Nat×(Int×(List Int)) //eX a0 a1 x.1 x.2=some r}) (fun x=>[(7, .ptr 127 0),(41, .d (.int .i64 (((List.replicate (((a0.Funcs.getD a1.toNat default).Code).length:Int).toNat (0:Int)).map aE).length:Int))),(42, .d (.int .i64 x.1.2.1))]) (fun x=>[(127, .box 191 [.d (slT ah a0.Decls), .d (slT ab a0.Waits), .d (slT aj a0.Funcs), .d (slT aB ((a0.Funcs.getD a1.toNat default).Code)), .own 134, .d (.nils), .d (.int .i64 0), .d (.int .i64 0)]),(134, .row 3 1 (x.1.2.2.map aE))]) (fun x=>x.1.1) ⟨(fuel,(0,List.replicate (((a0.Funcs.getD a1.toNat default).Code).length:Int).toNat (0:Int))),H⟩ (Lm p3 p2) fun x=>?_))))))))
 obtain ⟨⟨k5,s4⟩,H⟩:=x
 rcases k5 with _ | k5
 ·exact aP H
 rw [eX] at H
 refine G (R 1 rfl (NS (Wd rfl H (fun H=>?_) (fun H=>?_))))
 ·refine Wk (Qn (Ws (Wb (G (R 2 rfl (NQ (Wg (R 5 rfl ?_))))))))
  obtain ⟨g7,H⟩:=av H
  refine WL.yv (LJ.Y.idxRel aE s4.2 s4.1 tk rfl rfl rfl rfl rfl (an g7)) rfl rfl rfl (WL.storeRel aE s4.2 s4.1 0 (-1) (.int .i64 (-1)) rfl rfl rfl rfl (fun _=>rfl) rfl (by kernel_rfl) rfl rfl (by first | exact an g7 | (have:=an g7;simpa only [List.length_set,List.length_map] using this)) rfl rfl rfl rfl ?_)
  refine Wn (Qb (Qn ?_))
  exact Wg (R 2 rfl (NQ (⟨⟨(k5,(IntKind.i64.wrap (s4.1+1),s4.2.set s4.1.toNat (-1))),H⟩,Z,Lm p3 p2⟩)))
 refine WC.exit (Qx (Qx (Qh (Qn ?_))))
 refine Ws (G (R 6 rfl (NQ (Wd rfl H (fun H=>?_) (fun H=>?_)))))
 ·refine G (R 3 rfl (NQ (WC.nilT 4 aE rfl (Wt (QT.r ?_)))))
  cases H
  exact Ea rfl rfl rfl tv
 refine Wk (Qn (G (R 6 rfl ?_)))
 obtain ⟨g9,H⟩:=av H
 refine WL.makeT (r:=164) bu (false:Bool) (((a0.Funcs.getD a1.toNat default).Code).length:Int) tk ek rfl rfl rfl rfl rfl rfl rfl (pD g9) rfl rfl rfl rfl (R 2 rfl (Ef 0 rfl (N (R 1 rfl ?_))))
 obtain ⟨x10,hx10,H⟩:=al H
 refine Cl [134,164] (cB 127 134 164 rfl _ _ _ _ hx10) cC rfl p3 rfl (NS (G (R 1 rfl ?_)))
 obtain ⟨x11,hx11,H⟩:=al H
 refine Cl [134,164] (jn 127 134 164 rfl _ hx11) jo rfl p3 rfl (R 1 rfl (NQ (Wb (Wl (ι:= {x:Nat×(Int×(List ai)×(List (List (List af)))×(List aw)×(List aq)×Int×Int×(List Int)×(List Bool)) //dK x.1 x.2=some r}) (fun x=>[(7, .ptr 127 0),(9, .d (.int .i64 x.1.2.1))]) (fun x=>[(127, .box 191 [.d (slT ah x.1.2.2.1), .d (slT ab x.1.2.2.2.1), .d (slT aj x.1.2.2.2.2.1), .d (slT aB x.1.2.2.2.2.2.1), .own 134, .own 164, .d (.int .i64 x.1.2.2.2.2.2.2.1), .d (.int .i64 x.1.2.2.2.2.2.2.2.1)]),(134, .row 3 1 (x.1.2.2.2.2.2.2.2.2.1.map aE)),(164, .row 4 1 (x.1.2.2.2.2.2.2.2.2.2.map bu))]) (fun x=>x.1.1) ⟨(fuel,(x11,x10.2.p.Decls,x10.2.p.Waits,x10.2.p.Funcs,x10.2.code,x10.2.at_,x10.2.err,x10.2.depth,x10.2.next)),H⟩ (Lm p2 p3) fun x=>?_))))
 obtain ⟨⟨k13,s12⟩,H⟩:=x
 rcases k13 with _ | k13
 ·exact aP H
 rw [dK] at H
 refine Ws (G (R 2 rfl (NQ (Wd rfl H (fun H=>?_) (fun H=>?_)))))
 ·refine Wk (Qn (Ws (Wb (G (R 5 rfl ?_)))))
  obtain ⟨g15,H⟩:=av H
  refine WL.yv (LJ.Y.idxRel bu s12.2.2.2.2.2.2.2.2 s12.1 tk rfl rfl rfl rfl rfl (an g15)) rfl rfl rfl (WL.storeRel bu s12.2.2.2.2.2.2.2.2 s12.1 0 false (.bool false) rfl rfl rfl rfl (fun _=>rfl) rfl (by kernel_rfl) rfl rfl (by first | exact an g15 | (have:=an g15;simpa only [List.length_set,List.length_map] using this)) rfl rfl rfl rfl ?_)
  refine NQ (Wg (R 2 rfl ?_))
  obtain ⟨x16,hx16,H⟩:=al H
  refine Cl [134,164] (nT 127 134 164 rfl _ _ hx16) nU rfl p3 rfl (Wn (Qb (Qn ?_)))
  refine Wg (R 1 rfl ?_)
  obtain ⟨x17,hx17,H⟩:=al H
  exact Cl [134,164] (jn 127 134 164 rfl _ hx17) jo rfl p3 rfl (R 1 rfl (NQ (⟨⟨(k13,(x17,x16.p.Decls,x16.p.Waits,x16.p.Funcs,x16.code,x16.at_,x16.err,x16.depth,x16.next)),H⟩,Z,Lm p2 p3⟩)))
 refine WC.exit (Qx (Qx (Qh (Qn ?_))))
 refine Ws (G (R 5 rfl (NQ (Wd rfl H (fun H=>?_) (fun H=>?_)))))
 ·refine Ws (Hp (.one 0 true (.one 1 true (.one 2 true (.one 3 true (.one 4 true (.one 5 true (.one 6 true (.one 7 true (.one 8 true (.one 9 true (.one 10 true .done))))))))))) [127] [127] rfl (by kernel_rfl) rfl (by kernel_rfl) rfl rfl (fun _ h=>h) rfl rfl rfl (fun _ _ _ h=>h) fun FK NK wK K=>(Hr 11 tk rfl rfl rfl rfl tv (WH.nil rfl (Qn (WC.nilT 4 aE rfl (Wt (QT.r ?_)))))))
  cases H
  exact Ea rfl rfl rfl tv
 refine Wk (Qn (G (R 7 rfl (NQ (WC.freezeT 134 aE s12.2.2.2.2.2.2.2.1 rfl rfl rfl rfl (Wt ?_))))))
 cases H
 exact Ea rfl rfl rfl tv
theorem yN:aD Tryz.prog 90 Tryz.f90:=⟨Tryz.func90,rfl,by kernel_rfl⟩
theorem nV (a0:aa) (a1:Int) {r:Int×Int} (H:dq a0 a1=some r):LJ.Spec Tryz.prog 56 [.d (.agg [slT ah a0.Decls,slT ab a0.Waits,slT aj a0.Funcs]), .d (.int .i64 a1)] [] (.tup [.d (.int .i64 r.1), .d (.int .i64 r.2)]) []:=by
 refine LJ.Spec.code Tryz.func56 rfl 67 rfl rfl [] rfl fun w0 F0 S0 B0=>?_
 unfold dq at H
 refine G (Ef 102 rfl (R 2 rfl (NS (Wg ?_))))
 obtain ⟨g1,H⟩:=av H
 refine RS 5 rfl ⟨⟨(an g1).1,(an g1).2,rfl⟩,tv⟩ (Wa 106 tk rfl rfl rfl (Ef 0 rfl (NS (G (R 4 rfl (NQ (Wb (Wl (ι:= {x:Nat×Int //cz a0 a1 x.1 x.2=some r}) (fun x=>[(1, .d (.int .i64 a1)),(2, .ptr 102 0),(6, .ptr 106 0),(22, .d (slT aB ((a0.Funcs.getD a1.toNat default).Code))),(23, .d (.int .i64 (((a0.Funcs.getD a1.toNat default).Code).length:Int))),(24, .d (.int .i64 x.1.2))]) (fun x=>[(102, .box 28 [.d (slT ah a0.Decls), .d (slT ab a0.Waits), .d (slT aj a0.Funcs)]),(106, .box 98 [.d (.int .i64 ((a0.Funcs.getD a1.toNat default).Args)), .d (.int .i64 ((a0.Funcs.getD a1.toNat default).Locals)), .d (slT aB ((a0.Funcs.getD a1.toNat default).Code))])]) (fun x=>x.1.1) ⟨(fuel,0),H⟩ (Lm p6 p2) fun x=>?_))))))))
 obtain ⟨⟨k3,s2⟩,H⟩:=x
 rcases k3 with _ | k3
 ·exact aP H
 rw [cz] at H
 refine G (R 1 rfl (NS (Wd rfl H (fun H=>?_) (fun H=>?_))))
 ·refine Wk (Qn ?_)
  obtain ⟨K5,hK5,H⟩:=da H
  refine WC.cut (fun E m=>∃ s6:Unit,K5 s6=some r∧hJ E m [(1, .d (.int .i64 a1)),(2, .ptr 102 0),(6, .ptr 106 0),(22, .d (slT aB ((a0.Funcs.getD a1.toNat default).Code))),(23, .d (.int .i64 (((a0.Funcs.getD a1.toNat default).Code).length:Int))),(24, .d (.int .i64 s2))] [(102, .box 28 [.d (slT ah a0.Decls), .d (slT ab a0.Waits), .d (slT aj a0.Funcs)]),(106, .box 98 [.d (.int .i64 ((a0.Funcs.getD a1.toNat default).Args)), .d (.int .i64 ((a0.Funcs.getD a1.toNat default).Locals)), .d (slT aB ((a0.Funcs.getD a1.toNat default).Code))])]) ?_ ?_
  ·refine Wb (G ?_)
   obtain ⟨g7,H⟩:=av H
   refine RS 3 rfl ⟨⟨(an g7).1,(an g7).2,rfl⟩,tv⟩ (Wa 108 tk rfl rfl rfl (R 1 rfl (Ef 0 rfl (N (R 4 rfl (WL.yv (LJ.Y.buildArr 2 [.int .i64 0, .int .i64 0] [.int .i64 ((((a0.Funcs.getD a1.toNat default).Code).getD s2.toNat default).A), .int .i64 ((((a0.Funcs.getD a1.toNat default).Code).getD s2.toNat default).B)] (by kernel_rfl) (by kernel_rfl) rfl rfl rfl) rfl rfl rfl (WL.allocZ 109 [.int .i64 0, .int .i64 0] rfl (by kernel_rfl) rfl rfl rfl rfl (Ef 0 rfl (N (R 2 rfl ?_))))))))))
   obtain ⟨x8,hx8,H⟩:=al H
   refine Cl [] (gd _ hx8) gf rfl tv rfl (WL.wo (WO.bytesD Cv x8 rfl rfl rfl (by kernel_rfl) rfl rfl) rfl (R 2 rfl (NQ (Wb (Wl (ι:= {x:Nat×Int //cq a0 a1 s2 K5 x8 x.1 x.2=some r}) (fun x=>[(1, .d (.int .i64 a1)),(2, .ptr 102 0),(6, .ptr 106 0),(7, .d (.int .i64 s2)),(8, .ptr 108 0),(9, .ptr 109 0),(22, .d (slT aB ((a0.Funcs.getD a1.toNat default).Code))),(23, .d (.int .i64 (((a0.Funcs.getD a1.toNat default).Code).length:Int))),(24, .d (.int .i64 s2)),(37, .d (slT Cv (jd x8))),(38, .d (.int .i64 ((jd x8).length:Int))),(39, .d (.int .i64 x.1.2))]) (fun x=>[(102, .box 28 [.d (slT ah a0.Decls), .d (slT ab a0.Waits), .d (slT aj a0.Funcs)]),(106, .box 98 [.d (.int .i64 ((a0.Funcs.getD a1.toNat default).Args)), .d (.int .i64 ((a0.Funcs.getD a1.toNat default).Locals)), .d (slT aB ((a0.Funcs.getD a1.toNat default).Code))]),(108, .box 100 [.d (.int .i64 ((((a0.Funcs.getD a1.toNat default).Code).getD s2.toNat default).Op)), .d (.int .i64 ((((a0.Funcs.getD a1.toNat default).Code).getD s2.toNat default).A)), .d (.int .i64 ((((a0.Funcs.getD a1.toNat default).Code).getD s2.toNat default).B))]),(109, .box 161 [.d (.int .i64 ((((a0.Funcs.getD a1.toNat default).Code).getD s2.toNat default).A)), .d (.int .i64 ((((a0.Funcs.getD a1.toNat default).Code).getD s2.toNat default).B))])]) (fun x=>x.1.1) ⟨(fuel,0),H⟩ (Lm p12 p4) fun x=>?_)))))
   obtain ⟨⟨k10,s9⟩,H⟩:=x
   rcases k10 with _ | k10
   ·exact aP H
   rw [cq] at H
   refine G (R 1 rfl (NS (Wd rfl H (fun H=>?_) (fun H=>?_))))
   ·refine Wk (Qn (Ws (Wb (G ?_))))
    obtain ⟨g12,H⟩:=av H
    refine RS 5 rfl ⟨⟨(an g12).1,(an g12).2,rfl⟩,tv⟩ (NS (Hp (.one 0 true (.one 1 true (.one 2 true (.one 3 true (.one 4 true (.one 5 true (.one 6 true (.one 7 false (.one 8 true .done))))))))) [102,106,108,109] [102,106,108,109] rfl (by kernel_rfl) rfl (by kernel_rfl) rfl rfl (fun _ h=>h) rfl rfl rfl (fun _ _ _ h=>h) fun FK NK wK K=>(Hr 5 tk rfl rfl rfl rfl tv ?_)))
    obtain ⟨g13,H⟩:=av H
    refine WH.yv rfl (LJ.Y.idxPtrA 2 s9 (by kernel_rfl) rfl rfl rfl (an g13)) rfl rfl rfl (WH.yv rfl (LJ.Y.loadPtrA 2 0 (fun k=> .int .i64 (([(((a0.Funcs.getD a1.toNat default).Code).getD s2.toNat default).A,(((a0.Funcs.getD a1.toNat default).Code).getD s2.toNat default).B]:List Int).getD k default)) s9 rfl rfl rfl (by kernel_rfl) rfl (an g13)) rfl rfl rfl ?_)
    obtain ⟨x14,hx14,H⟩:=al H
    refine WH.call [] rfl (oI _ _ _ _ _ hx14) oJ rfl rfl tv rfl rfl rfl rfl rfl (Hr 1 tk rfl rfl rfl rfl tv (WH.nil rfl (Qn (G (R 2 rfl (NQ (Wd rfl H (fun H=>?_) (fun H=>?_))))))))
    ·refine G (R 4 rfl (NQ (Wt (QB.r (QT.r (QT.r (QB.r (QB.r (QT.r (QT.r (QB.r (QT.r ?_))))))))))))
     cases H
     exact Ea rfl rfl rfl tv
    refine Wk (Qb (Qn ?_))
    exact Wg (R 2 rfl (NQ (⟨⟨(k10,IntKind.i64.wrap (s9+1)),H⟩,Z,Lm p12 p4⟩)))
   refine WC.exit (Qx (Qx (Qh (Qb (Qn ?_)))))
   exact ⟨Unit.unit,H,Lw q6 p2⟩
  ·rintro E m ⟨s6,H,hl⟩
   refine WC.lessW hl ?_
   replace H:=(hK5 _).symm.trans H
   try dsimp only at H
   exact Wg (R 2 rfl (NQ (⟨⟨(k3,IntKind.i64.wrap (s2+1)),H⟩,Z,Lm p6 p2⟩)))
 refine WC.exit (Qx (Qx (Qh (Qn ?_))))
 refine G (R 2 rfl ?_)
 obtain ⟨x16,hx16,H⟩:=al H
 refine Cl [] (yM _ _ hx16) yN rfl tv rfl (R 7 rfl (N (R 4 rfl (NQ (Wt ?_)))))
 cases H
 exact Ea rfl rfl rfl tv
theorem nW:aD Tryz.prog 56 Tryz.f56:=⟨Tryz.func56,rfl,by kernel_rfl⟩
theorem oK (a0:aa) {r:de×Int} (H:cO a0=some r):LJ.Spec Tryz.prog 27 [.d (.agg [slT ah a0.Decls,slT ab a0.Waits,slT aj a0.Funcs])] [] (.tup [.d (.agg [.int .i64 r.1.Fn, .int .i64 r.1.Pc]), .d (.int .i64 r.2)]) []:=by
 refine LJ.Spec.code Tryz.func27 rfl 41 rfl rfl [] rfl fun w0 F0 S0 B0=>?_
 unfold cO at H
 refine G (Ef 101 rfl (Wa 102 tk rfl rfl rfl (R 1 rfl (NS (G (R 1 rfl ?_))))))
 obtain ⟨x1,hx1,H⟩:=al H
 refine Cl [] (kN _ hx1) kO rfl tv rfl (R 1 rfl (N (R 2 rfl (NQ (Wd rfl H (fun H=>?_) (fun H=>?_))))))
 ·refine G (R 2 rfl (Ef 0 rfl (R 1 rfl (NQ (Wt (QT.r ?_))))))
  cases H
  exact Ends.autoC tk rfl rfl rfl tv
 refine Wk (Qn (Ws (G ?_)))
 obtain ⟨g3,H⟩:=av H
 refine RS 6 rfl ⟨⟨(an g3).1,(an g3).2,rfl⟩,tv⟩ (NQ (Wd rfl H (fun H=>?_) (fun H=>?_)))
 ·refine G (R 1 rfl (Ef 0 rfl (R 1 rfl (NQ (Wt (QT.r ?_))))))
  cases H
  exact Ends.autoC tk rfl rfl rfl tv
 refine Wk (Qn (Ws (G (R 4 rfl (NQ (Wb (Wl (ι:= {x:Nat×Int //bO a0 x.1 x.2=some r}) (fun x=>[(1, .ptr 101 0),(2, .ptr 102 0),(23, .d (.int .i64 (a0.Funcs.length:Int))),(24, .d (.int .i64 x.1.2))]) (fun x=>[(101, .box 28 [.d (slT ah a0.Decls), .d (slT ab a0.Waits), .d (slT aj a0.Funcs)]),(102, .box 68 [.d (.int .i64 0), .d (.int .i64 0)])]) (fun x=>x.1.1) ⟨(fuel,0),H⟩ (Lm p4 p2) fun x=>?_)))))))
 obtain ⟨⟨k6,s5⟩,H⟩:=x
 rcases k6 with _ | k6
 ·exact aP H
 rw [bO] at H
 refine G (R 1 rfl (NS (Wd rfl H (fun H=>?_) (fun H=>?_))))
 ·refine Wk (Qn (Ws (Wb (G (R 2 rfl (N (R 2 rfl ?_)))))))
  obtain ⟨x8,hx8,H⟩:=al H
  refine Cl [] (nV _ _ hx8) nW rfl tv rfl (R 5 rfl (N (R 2 rfl (NQ (Wd rfl H (fun H=>?_) (fun H=>?_))))))
  ·refine G (R 4 rfl (Ef 0 rfl (R 1 rfl (NQ (Wt (QB.r (QT.r (QT.r (QB.r (QT.r ?_))))))))))
   cases H
   exact Ends.autoC tk rfl rfl rfl tv
  refine Wk (Qb (Qn ?_))
  exact Wg (R 2 rfl (NQ (⟨⟨(k6,IntKind.i64.wrap (s5+1)),H⟩,Z,Lm p4 p2⟩)))
 refine WC.exit (Qx (Qx (Qh (Qn ?_))))
 refine G (R 1 rfl (Ef 0 rfl (R 1 rfl (NQ (Wt ?_)))))
 cases H
 exact Ends.autoC tk rfl rfl rfl tv
theorem oL:aD Tryz.prog 27 Tryz.f27:=⟨Tryz.func27,rfl,by kernel_rfl⟩
theorem fv (a0:ar) {r:Int} (H:eY a0=some r):LJ.Spec Tryz.prog 10 [.d (.agg [.int .i64 a0.Config.Mode, .int .i64 a0.Config.Workers, .int .i64 a0.Config.Quantum, .int .i64 a0.Config.Policy,slT ah a0.Program.Decls,slT ab a0.Program.Waits,slT aj a0.Program.Funcs,slT aA a0.Events])] [] (.d (.int .i64 r)) []:=by
 refine LJ.Spec.code Tryz.func10 rfl 53 rfl rfl [] rfl fun w0 F0 S0 B0=>?_
 unfold eY at H
 refine G (Ef 101 rfl (R 1 rfl (NS (G (R 2 rfl ?_)))))
 obtain ⟨x1,hx1,H⟩:=al H
 refine Cl [] (qu _ hx1) qv rfl tv rfl (R 1 rfl (N (R 2 rfl (NQ (Wd rfl H (fun H=>?_) (fun H=>?_))))))
 ·refine G (R 2 rfl (NQ (Wt (QT.r ?_))))
  cases H
  exact Ea rfl rfl rfl tv
 refine Wk (Qn (Ws (G (R 2 rfl ?_))))
 obtain ⟨x3,hx3,H⟩:=al H
 refine Cl [] (oK _ hx3) oL rfl tv rfl (R 3 rfl (Wa 104 tk rfl rfl rfl (Ef 0 rfl (R 1 rfl (N (R 2 rfl (NQ (Wd rfl H (fun H=>?_) (fun H=>?_)))))))))
 ·refine G (R 2 rfl (NQ (Wt (QT.r ?_))))
  cases H
  exact Ea rfl rfl rfl tv
 refine Wk (Qn (Ws (G (R 4 rfl (NQ (Wd rfl H (fun H=>?_) (fun H=>?_)))))))
 ·refine G (R 1 rfl (NQ (Wt (QT.r ?_))))
  cases H
  exact Ea rfl rfl rfl tv
 refine Wk (Qn (Ws (G (R 4 rfl (NQ (Wb (Wl (ι:= {x:Nat×Int //dr a0 x.1 x.2=some r}) (fun x=>[(28, .d (slT aA a0.Events)),(29, .d (.int .i64 (a0.Events.length:Int))),(30, .d (.int .i64 x.1.2))]) (fun x=>[]) (fun x=>x.1.1) ⟨(fuel,0),H⟩ (Lm p3 tv) fun x=>?_)))))))
 obtain ⟨⟨k7,s6⟩,H⟩:=x
 rcases k7 with _ | k7
 ·exact aP H
 rw [dr] at H
 refine G (R 1 rfl (NS (Wd rfl H (fun H=>?_) (fun H=>?_))))
 ·refine Wk (Qn (Ws (Wb (G ?_))))
  obtain ⟨g9,H⟩:=av H
  refine RS 2 rfl ⟨⟨(an g9).1,(an g9).2,rfl⟩,tv⟩ (Wa 107 tk rfl rfl rfl (Ef 0 rfl (NQ (Wb (G (R 4 rfl (Wx 3 3 true tk sg0 rfl rfl (fun _=>tv) (RS 2 rfl ⟨by first | exact id | exact fun h=>by rw [h];rfl | simp_all,tv⟩ (NQ (Wd rfl H (fun H=>?_) (fun H=>?_)))))))))))
  ·refine G (R 1 rfl (NQ (Wt (QB.r (QB.r (QT.r (QT.r (QB.r (QT.r ?_)))))))))
   cases H
   exact Ea rfl rfl rfl tv
  refine G (R 4 rfl (Wx 3 3 true tk sg0 rfl rfl (fun _=>tv) (RS 2 rfl ⟨by first | exact id | exact fun h=>by rw [h];rfl | simp_all,tv⟩ (NQ (Wd rfl H (fun H=>?_) (fun H=>?_))))))
  ·refine G (R 1 rfl (NQ (Wt (QB.r (QB.r (QT.r (QT.r (QB.r (QT.r ?_)))))))))
   cases H
   exact Ea rfl rfl rfl tv
  refine Wk (Qb (Qb (Qn ?_)))
  exact Wg (R 2 rfl (NQ (⟨⟨(k7,IntKind.i64.wrap (s6+1)),H⟩,Z,Lm p3 tv⟩)))
 refine WC.exit (Qx (Qx (Qh (Qn ?_))))
 refine G (R 1 rfl (NQ (Wt ?_)))
 cases H
 exact Ea rfl rfl rfl tv
theorem fw:aD Tryz.prog 10 Tryz.f10:=⟨Tryz.func10,rfl,by kernel_rfl⟩
theorem qE (a0:ay) (a1:Int) {r:ay} (H:bf a0 a1=some r):LJ.Spec Tryz.prog 21 [.ptr 0 0, .d (.int .u64 a1)] [(0, .box 59 [.own 1]),(1, .row 5 1 (bE a0.b))] (.tup []) [(1, .row 5 1 (bE r.b)),(0, .box 59 [.own 1])]:=by
 refine LJ.Spec.code Tryz.func21 rfl 33 rfl rfl [0] rfl fun w0 F0 S0 B0=>?_
 unfold bf at H
 refine Ws (G (R 2 rfl (NQ (Wc rfl (fun h=>absurd h (by decide)) (fun h=>?_)))))
 refine Wk (Qn ?_)
 obtain ⟨K1,hK1,H⟩:=da H
 refine WC.cut (fun E m=>∃ s2:Int×ByteArray,K1 s2=some r∧hJ E m [(0, .ptr 0 0),(1, .d (.int .u64 s2.1))] [(0, .box 59 [.own 1]),(1, .row 5 1 (bE s2.2))]) ?_ ?_
 ·refine Wb (Wl (ι:= {x:Nat×(Int×ByteArray) //dF K1 x.1 x.2=some r}) (fun x=>[(0, .ptr 0 0),(1, .d (.int .u64 x.1.2.1))]) (fun x=>[(0, .box 59 [.own 1]),(1, .row 5 1 (bE x.1.2.2))]) (fun x=>x.1.1) ⟨(fuel,(a1,a0.b)),H⟩ (Lm p2 p2) fun x=>?_)
  obtain ⟨⟨k4,s3⟩,H⟩:=x
  rcases k4 with _ | k4
  ·exact aP H
  rw [dF] at H
  refine Ws (G (R 2 rfl (NQ (Wd rfl H (fun H=>?_) (fun H=>?_)))))
  ·refine Wk (Qn (Wb (G (R 8 rfl (Ef 116 rfl ?_)))))
   obtain ⟨g6,H⟩:=av H
   obtain ⟨g7,H⟩:=av H
   refine EF 0 rfl (lJ rfl (bX g6)) (WL.row 1 (bE (s3.2.push (UInt8.ofNat (Go.bits .or .u8 (IntKind.u8.wrap s3.1) 128).toNat))) rfl (pj (an g7).1 (an g7).2) rfl (R 2 rfl (Ef 0 rfl (NQ (Wg (R 3 rfl (Wn (Qb (Qn ?_)))))))))
   exact ⟨⟨(k4,(s3.1 /2 ^min (7:Int).toNat IntKind.u64.bits,s3.2.push (UInt8.ofNat (Go.bits .or .u8 (IntKind.u8.wrap s3.1) 128).toNat))),H⟩,Z,Lm p2 p2⟩
  refine WC.exit (Qx (Qx (Qh (Qn ?_))))
  exact ⟨(s3.1,s3.2),H,Lw q2 p2⟩
 ·rintro E m ⟨s2,H,hl⟩
  refine WC.lessW hl ?_
  replace H:=(hK1 _).symm.trans H
  try dsimp only at H
  refine Wg (R 7 rfl (Ef 129 rfl ?_))
  obtain ⟨g8,H⟩:=av H
  obtain ⟨g9,H⟩:=av H
  refine EF 0 rfl (lJ rfl (bX g8)) (WL.row 1 (bE (s2.2.push (UInt8.ofNat (IntKind.u8.wrap s2.1).toNat))) rfl (pj (an g9).1 (an g9).2) rfl (R 2 rfl (Ef 0 rfl (Wn ?_))))
  cases H
  exact Ends.auton rfl rfl rfl p2
theorem bx (n0 n1:Nat) (hn:cD [n0,n1]=true) (a0:ay) (a1:Int) {r:ay} (H:bf a0 a1=some r):LJ.Spec Tryz.prog 21 [.ptr n0 0, .d (.int .u64 a1)] [(n0, .box 59 [.own n1]),(n1, .row 5 1 (bE a0.b))] (.tup []) [(n1, .row 5 1 (bE r.b)),(n0, .box 59 [.own n1])]:=
 Spec.names [n0,n1] hn rfl rfl (qE a0 a1 H)
theorem bA:aD Tryz.prog 21 Tryz.f21:=⟨Tryz.func21,rfl,by kernel_rfl⟩
theorem oM (a0:ay) (a1:Int) {r:ay} (H:cd a0 a1=some r):LJ.Spec Tryz.prog 24 [.ptr 0 0, .d (.int .i64 a1)] [(0, .box 59 [.own 1]),(1, .row 5 1 (bE a0.b))] (.tup []) [(1, .row 5 1 (bE r.b)),(0, .box 59 [.own 1])]:=by
 refine LJ.Spec.code Tryz.func24 rfl 17 rfl rfl [0] rfl fun w0 F0 S0 B0=>?_
 unfold cd at H
 refine G (R 2 rfl (NQ (Wc rfl (fun h=>?_) (fun h=>absurd h (by decide)))))
 refine Wg (R 7 rfl (Ef 113 rfl ?_))
 obtain ⟨g1,H⟩:=av H
 obtain ⟨g2,H⟩:=av H
 refine EF 0 rfl (lJ rfl (bX g1)) (WL.row 1 (bE (a0.b.push (UInt8.ofNat (IntKind.u8.wrap a1).toNat))) rfl (pj (an g2).1 (an g2).2) rfl (R 2 rfl (Ef 0 rfl (Wn ?_))))
 cases H
 exact Ends.auton rfl rfl rfl p2
theorem fA (n0 n1:Nat) (hn:cD [n0,n1]=true) (a0:ay) (a1:Int) {r:ay} (H:cd a0 a1=some r):LJ.Spec Tryz.prog 24 [.ptr n0 0, .d (.int .i64 a1)] [(n0, .box 59 [.own n1]),(n1, .row 5 1 (bE a0.b))] (.tup []) [(n1, .row 5 1 (bE r.b)),(n0, .box 59 [.own n1])]:=
 Spec.names [n0,n1] hn rfl rfl (oM a0 a1 H)
theorem fB:aD Tryz.prog 24 Tryz.f24:=⟨Tryz.func24,rfl,by kernel_rfl⟩
theorem qF (a0:ay) (a1:Int) {r:ay} (H:db a0 a1=some r):LJ.Spec Tryz.prog 25 [.ptr 0 0, .d (.int .i64 a1)] [(0, .box 59 [.own 1]),(1, .row 5 1 (bE a0.b))] (.tup []) [(1, .row 5 1 (bE r.b)),(0, .box 59 [.own 1])]:=by
 refine LJ.Spec.code Tryz.func25 rfl 13 rfl rfl [0] rfl fun w0 F0 S0 B0=>?_
 unfold db at H
 refine Wg (R 8 rfl ?_)
 obtain ⟨x1,hx1,H⟩:=al H
 refine Cl [1] (bx 0 1 rfl _ _ hx1) bA rfl p2 rfl (Wn ?_)
 cases H
 exact Ends.auton rfl rfl rfl p2
theorem gg (n0 n1:Nat) (hn:cD [n0,n1]=true) (a0:ay) (a1:Int) {r:ay} (H:db a0 a1=some r):LJ.Spec Tryz.prog 25 [.ptr n0 0, .d (.int .i64 a1)] [(n0, .box 59 [.own n1]),(n1, .row 5 1 (bE a0.b))] (.tup []) [(n1, .row 5 1 (bE r.b)),(n0, .box 59 [.own n1])]:=
 Spec.names [n0,n1] hn rfl rfl (qF a0 a1 H)
theorem gh:aD Tryz.prog 25 Tryz.f25:=⟨Tryz.func25,rfl,by kernel_rfl⟩
theorem oN (a0:ay) {r:ByteArray} (H:cw a0=some r):LJ.Spec Tryz.prog 26 [.ptr 0 0] [(0, .box 59 [.own 1]),(1, .row 5 1 (bE a0.b))] (.d (.str r)) [(1, .row 5 1 (bE a0.b)),(0, .box 59 [.own 1])]:=by
 refine LJ.Spec.code Tryz.func26 rfl 10 rfl rfl [0] rfl fun w0 F0 S0 B0=>?_
 unfold cw at H
 refine G (R 1 rfl (NS (G (R 2 rfl (NQ (Wc rfl (fun h=>absurd h (by decide)) (fun h=>?_)))))))
 refine Wk (Qn (G (R 4 rfl (WL.ownStr a0.b tk rfl rfl rfl rfl (R 1 rfl (NQ (Wt ?_)))))))
 cases H
 exact Ea rfl rfl rfl p2
theorem eG (n0 n1:Nat) (hn:cD [n0,n1]=true) (a0:ay) {r:ByteArray} (H:cw a0=some r):LJ.Spec Tryz.prog 26 [.ptr n0 0] [(n0, .box 59 [.own n1]),(n1, .row 5 1 (bE a0.b))] (.d (.str r)) [(n1, .row 5 1 (bE a0.b)),(n0, .box 59 [.own n1])]:=
 Spec.names [n0,n1] hn rfl rfl (oN a0 H)
theorem eH:aD Tryz.prog 26 Tryz.f26:=⟨Tryz.func26,rfl,by kernel_rfl⟩
theorem yO (a0:List ai) {r:ByteArray×Int} (H:mS a0=some r):LJ.Spec Tryz.prog 50 [.d (slT ah a0)] [] (.tup [.d (.str r.1), .d (.int .i64 r.2)]) []:=by
 refine LJ.Spec.code Tryz.func50 rfl 69 rfl rfl [] rfl fun w0 F0 S0 B0=>?_
 unfold mS at H
 refine G (R 2 rfl (NS (G (R 1 rfl ?_))))
 obtain ⟨x1,hx1,H⟩:=al H
 refine Cl [] (kJ _ hx1) kK rfl tv rfl (R 5 rfl (N (R 2 rfl (NQ (Wd rfl H (fun H=>?_) (fun H=>?_))))))
 ·refine G (R 3 rfl (NQ (Wt (QT.r ?_))))
  cases H
  exact Ea rfl rfl rfl tv
 refine Wk (Qn (G (R 1 rfl (Ef 118 rfl (R 1 rfl (N (R 4 rfl (WL.nilF 118 0 4180 5 1 rfl (WL.row 4180 (bE ByteArray.empty) rfl rfl rfl ?_)))))))))
 obtain ⟨x3,hx3,H⟩:=al H
 refine Cl [4180] (bx 118 4180 rfl _ _ hx3) bA rfl p2 rfl (NS (G (R 3 rfl (NQ (Wb (Wl (ι:= {x:Nat×(Int×ByteArray) //dt a0 x.1 x.2=some r}) (fun x=>[(6, .ptr 118 0),(24, .d (slT ah a0)),(25, .d (.int .i64 (a0.length:Int))),(26, .d (.int .i64 x.1.2.1))]) (fun x=>[(118, .box 59 [.own 4180]),(4180, .row 5 1 (bE x.1.2.2))]) (fun x=>x.1.1) ⟨(fuel,(0,x3.b)),H⟩ (Lm p4 p2) fun x=>?_))))))
 obtain ⟨⟨k5,s4⟩,H⟩:=x
 rcases k5 with _ | k5
 ·exact aP H
 rw [dt] at H
 refine G (R 1 rfl (NS (Wd rfl H (fun H=>?_) (fun H=>?_))))
 ·refine Wk (Qn (Ws (Wb (G ?_))))
  obtain ⟨g7,H⟩:=av H
  refine RS 2 rfl ⟨⟨(an g7).1,(an g7).2,rfl⟩,tv⟩ (Wa 108 tk rfl rfl rfl (Ef 0 rfl (N (R 3 rfl ?_))))
  obtain ⟨x8,hx8,H⟩:=al H
  refine Cl [4180] (fA 118 4180 rfl _ _ hx8) fB rfl p2 rfl (N (R 2 rfl (NQ (Wb (G (R 2 rfl (NQ (Wd rfl H (fun H=>?_) (fun H=>?_)))))))))
  ·refine G (R 4 rfl ?_)
   obtain ⟨x10,hx10,H⟩:=al H
   refine Cl [4180] (bx 118 4180 rfl _ _ hx10) bA rfl p2 rfl (NQ (Wg (R 4 rfl ?_)))
   obtain ⟨x11,hx11,H⟩:=al H
   refine Cl [4180] (bx 118 4180 rfl _ _ hx11) bA rfl p2 rfl (Wn (Qb (Qb (Qn ?_))))
   exact Wg (R 2 rfl (NQ (⟨⟨(k5,(IntKind.i64.wrap (s4.1+1),x11.b)),H⟩,Z,Lm p4 p2⟩)))
  refine G (R 2 rfl (NQ (Wd rfl H (fun H=>?_) (fun H=>?_))))
  ·refine Wg (R 4 rfl ?_)
   obtain ⟨x13,hx13,H⟩:=al H
   refine Cl [4180] (bx 118 4180 rfl _ _ hx13) bA rfl p2 rfl (Wn (Qb (Qb (Qn ?_))))
   exact Wg (R 2 rfl (NQ (⟨⟨(k5,(IntKind.i64.wrap (s4.1+1),x13.b)),H⟩,Z,Lm p4 p2⟩)))
  refine G (R 2 rfl (NQ (Wd rfl H (fun H=>?_) (fun H=>?_))))
  ·refine G (R 3 rfl ?_)
   obtain ⟨x15,hx15,H⟩:=al H
   refine Cl [4180] (gg 118 4180 rfl _ _ hx15) gh rfl p2 rfl (NQ (Wg (R 4 rfl ?_)))
   obtain ⟨x16,hx16,H⟩:=al H
   refine Cl [4180] (bx 118 4180 rfl _ _ hx16) bA rfl p2 rfl (Wn (Qb (Qb (Qn ?_))))
   exact Wg (R 2 rfl (NQ (⟨⟨(k5,(IntKind.i64.wrap (s4.1+1),x16.b)),H⟩,Z,Lm p4 p2⟩)))
  refine Wk (Qb (Qb (Qn ?_)))
  exact Wg (R 2 rfl (NQ (⟨⟨(k5,(IntKind.i64.wrap (s4.1+1),x8.b)),H⟩,Z,Lm p4 p2⟩)))
 refine WC.exit (Qx (Qx (Qh (Qn ?_))))
 refine G (R 1 rfl ?_)
 obtain ⟨x17,hx17,H⟩:=al H
 refine Cl [4180] (eG 118 4180 rfl _ hx17) eH rfl p2 rfl (R 2 rfl (NQ (Wt ?_)))
 cases H
 exact Ea rfl rfl rfl tv
theorem yP:aD Tryz.prog 50 Tryz.f50:=⟨Tryz.func50,rfl,by kernel_rfl⟩
theorem jN (a0:Int) {r:ByteArray} (H:il a0=some r):LJ.Spec Tryz.prog 52 [.d (.int .i64 a0)] [] (.d (.str r)) []:=by
 refine LJ.Spec.code Tryz.func52 rfl 12 rfl rfl [] rfl fun w0 F0 S0 B0=>?_
 unfold il at H
 refine G (R 1 rfl (N (R 1 rfl (Ef 105 rfl (R 1 rfl (N (R 3 rfl (WL.nilF 105 0 4050 5 1 rfl (WL.row 4050 (bE ByteArray.empty) rfl rfl rfl ?_)))))))))
 obtain ⟨x1,hx1,H⟩:=al H
 refine Cl [4050] (bx 105 4050 rfl _ _ hx1) bA rfl p2 rfl (N (R 1 rfl ?_))
 obtain ⟨x2,hx2,H⟩:=al H
 refine Cl [4050] (eG 105 4050 rfl _ hx2) eH rfl p2 rfl (R 1 rfl (NQ (Wt ?_)))
 cases H
 exact Ea rfl rfl rfl tv
theorem jO:aD Tryz.prog 52 Tryz.f52:=⟨Tryz.func52,rfl,by kernel_rfl⟩
theorem i4 (a0:aH) {r:aH} (H:cf a0=some r):LJ.Spec Tryz.prog 85 [.ptr 0 0] [(0, .box 109 [.optp a0.addr 0 0, .own 1]),(1, .row 5 1 (bE a0.buf))] (.tup []) [(1, .row 5 1 (bE r.buf)),(0, .box 109 [.optp r.addr 0 0, .own 1])]:=by
 refine LJ.Spec.code Tryz.func85 rfl 20 rfl rfl [0] rfl fun w0 F0 S0 B0=>?_
 unfold cf at H
 refine G (R 4 rfl (WL.yv (LJ.Y.oeql rfl rfl rfl (by kernel_rfl)) rfl rfl rfl (NQ (Wd rfl H (fun H=>?_) (fun H=>?_)))))
 ·refine Wg (R 2 rfl (WL.yv (LJ.Y.toUns 109 rfl rfl rfl rfl (by kernel_rfl) (by kernel_rfl) (by kernel_rfl)) rfl rfl rfl (WL.yv (LJ.Y.noEsc rfl rfl Tryz.func108 (by kernel_rfl) (by kernel_rfl) (by kernel_rfl) (by kernel_rfl)) rfl rfl rfl (WL.yv (LJ.Y.fromUns 109 rfl rfl rfl (by kernel_rfl) (by kernel_rfl) (by kernel_rfl) (by kernel_rfl)) rfl rfl rfl (R 2 rfl (Ef 0 rfl (Wn ?_)))))))
  cases H
  exact Ends.auton rfl rfl rfl p2
 refine G (R 5 rfl (WL.yv (LJ.Y.oneq rfl rfl rfl (by kernel_rfl) (by kernel_rfl)) rfl rfl rfl (NQ (Wd rfl H (fun H=>?_) (fun H=>?_)))))
 ·exact aP H
 refine Wk ?_
 cases H
 exact Ends.auton rfl rfl rfl p2
theorem i5 (n0 n1:Nat) (hn:cD [n0,n1]=true) (a0:aH) {r:aH} (H:cf a0=some r):LJ.Spec Tryz.prog 85 [.ptr n0 0] [(n0, .box 109 [.optp a0.addr n0 0, .own n1]),(n1, .row 5 1 (bE a0.buf))] (.tup []) [(n1, .row 5 1 (bE r.buf)),(n0, .box 109 [.optp r.addr n0 0, .own n1])]:=
 Spec.names [n0,n1] hn rfl rfl (i4 a0 H)
theorem i6:aD Tryz.prog 85 Tryz.f85:=⟨Tryz.func85,rfl,by kernel_rfl⟩
theorem ib (a0:aH) (a1:ByteArray) {r:Int×Unit×aH} (H:aY a0 a1=some r):LJ.Spec Tryz.prog 51 [.ptr 0 0, .d (.str a1)] [(0, .box 109 [.optp a0.addr 0 0, .own 1]),(1, .row 5 1 (bE a0.buf))] (.tup [.d (.int .i64 r.1), .d (.nili)]) [(1, .row 5 1 (bE r.2.2.buf)),(0, .box 109 [.optp r.2.2.addr 0 0, .own 1])]:=by
 refine LJ.Spec.code Tryz.func51 rfl 19 rfl rfl [0] rfl fun w0 F0 S0 B0=>?_
 unfold aY at H
 refine G (R 2 rfl (N (R 1 rfl ?_)))
 obtain ⟨x1,hx1,H⟩:=al H
 refine Cl [1] (i5 0 1 rfl _ hx1) i6 rfl p2 rfl (N (R 6 rfl ?_))
 obtain ⟨g2,H⟩:=av H
 refine WL.apps tk EB rfl rfl rfl (zS (bX g2)) (WL.row 1 (bE (x1.buf++a1)) rfl (nY _ _).symm rfl (R 2 rfl (Ef 0 rfl (N (R 4 rfl (NQ (Wt ?_)))))))
 cases H
 exact Ea rfl rfl rfl p2
theorem bL (n0 n1:Nat) (hn:cD [n0,n1]=true) (a0:aH) (a1:ByteArray) {r:Int×Unit×aH} (H:aY a0 a1=some r):LJ.Spec Tryz.prog 51 [.ptr n0 0, .d (.str a1)] [(n0, .box 109 [.optp a0.addr n0 0, .own n1]),(n1, .row 5 1 (bE a0.buf))] (.tup [.d (.int .i64 r.1), .d (.nili)]) [(n1, .row 5 1 (bE r.2.2.buf)),(n0, .box 109 [.optp r.2.2.addr n0 0, .own n1])]:=
 Spec.names [n0,n1] hn rfl rfl (ib a0 a1 H)
theorem bM:aD Tryz.prog 51 Tryz.f51:=⟨Tryz.func51,rfl,by kernel_rfl⟩
theorem yQ (a0:List ai) (a1:List (List af)) {r:ByteArray×Int} (H:mT a0 a1=some r):LJ.Spec Tryz.prog 53 [.d (slT ah a0), .d (slT aC a1)] [] (.tup [.d (.str r.1), .d (.int .i64 r.2)]) []:=by
 refine LJ.Spec.code Tryz.func53 rfl 63 rfl rfl [] rfl fun w0 F0 S0 B0=>?_
 unfold mT at H
 refine G (R 2 rfl (NS (G (R 2 rfl ?_))))
 obtain ⟨x1,hx1,H⟩:=al H
 refine Cl [] (kL _ _ hx1) kM rfl tv rfl (R 1 rfl (N (R 2 rfl (NQ (Wd rfl H (fun H=>?_) (fun H=>?_))))))
 ·refine G (R 3 rfl (NQ (Wt (QT.r ?_))))
  cases H
  exact Ea rfl rfl rfl tv
 refine Wk (Qn (G (R 1 rfl (Ef 119 rfl (R 1 rfl (N (R 4 rfl (WL.nilF 119 0 4190 5 1 rfl (WL.row 4190 (bE ByteArray.empty) rfl rfl rfl ?_)))))))))
 obtain ⟨x3,hx3,H⟩:=al H
 refine Cl [4190] (bx 119 4190 rfl _ _ hx3) bA rfl p2 rfl (NS (G (R 3 rfl (NQ (Wb (Wl (ι:= {x:Nat×(Int×ByteArray) //eZ a1 x.1 x.2=some r}) (fun x=>[(7, .ptr 119 0),(25, .d (slT aC a1)),(26, .d (.int .i64 (a1.length:Int))),(27, .d (.int .i64 x.1.2.1))]) (fun x=>[(119, .box 59 [.own 4190]),(4190, .row 5 1 (bE x.1.2.2))]) (fun x=>x.1.1) ⟨(fuel,(0,x3.b)),H⟩ (Lm p4 p2) fun x=>?_))))))
 obtain ⟨⟨k5,s4⟩,H⟩:=x
 rcases k5 with _ | k5
 ·exact aP H
 rw [eZ] at H
 refine G (R 1 rfl (NS (Wd rfl H (fun H=>?_) (fun H=>?_))))
 ·refine Wk (Qn ?_)
  obtain ⟨K7,hK7,H⟩:=da H
  refine WC.cut (fun E m=>∃ s8:ByteArray,K7 s8=some r∧hJ E m [(7, .ptr 119 0),(25, .d (slT aC a1)),(26, .d (.int .i64 (a1.length:Int))),(27, .d (.int .i64 s4.1))] [(119, .box 59 [.own 4190]),(4190, .row 5 1 (bE s8))]) ?_ ?_
  ·refine Wb (G ?_)
   obtain ⟨g9,H⟩:=av H
   refine RS 3 rfl ⟨⟨(an g9).1,(an g9).2,rfl⟩,tv⟩ (N (R 4 rfl ?_))
   obtain ⟨x10,hx10,H⟩:=al H
   refine Cl [4190] (bx 119 4190 rfl _ _ hx10) bA rfl p2 rfl (N (R 3 rfl (NQ (Wb (Wl (ι:= {x:Nat×(Int×ByteArray) //dL a1 s4 K7 x.1 x.2=some r}) (fun x=>[(7, .ptr 119 0),(25, .d (slT aC a1)),(26, .d (.int .i64 (a1.length:Int))),(27, .d (.int .i64 s4.1)),(36, .d (slT bn (a1.getD s4.1.toNat default))),(37, .d (.int .i64 ((a1.getD s4.1.toNat default).length:Int))),(38, .d (.int .i64 x.1.2.1))]) (fun x=>[(119, .box 59 [.own 4190]),(4190, .row 5 1 (bE x.1.2.2))]) (fun x=>x.1.1) ⟨(fuel,(0,x10.b)),H⟩ (Lm p7 p2) fun x=>?_)))))
   obtain ⟨⟨k12,s11⟩,H⟩:=x
   rcases k12 with _ | k12
   ·exact aP H
   rw [dL] at H
   refine G (R 1 rfl (NS (Wd rfl H (fun H=>?_) (fun H=>?_))))
   ·refine Wk (Qn (Ws (Wb (G ?_))))
    obtain ⟨g14,H⟩:=av H
    refine RS 2 rfl ⟨⟨(an g14).1,(an g14).2,rfl⟩,tv⟩ (Wa 111 tk rfl rfl rfl (Ef 0 rfl (N (R 3 rfl ?_))))
    obtain ⟨x15,hx15,H⟩:=al H
    refine Cl [4190] (fA 119 4190 rfl _ _ hx15) fB rfl p2 rfl (N (R 4 rfl ?_))
    obtain ⟨x16,hx16,H⟩:=al H
    refine Cl [4190] (bx 119 4190 rfl _ _ hx16) bA rfl p2 rfl (N (R 2 rfl ?_))
    obtain ⟨x17,hx17,H⟩:=al H
    refine Cl [] (bo _ hx17) bt rfl tv rfl (NQ (Wd rfl H (fun H=>?_) (fun H=>?_)))
    ·refine Wg (R 4 rfl ?_)
     obtain ⟨x19,hx19,H⟩:=al H
     refine Cl [4190] (bx 119 4190 rfl _ _ hx19) bA rfl p2 rfl (Wn (Qb (Qn ?_)))
     exact Wg (R 2 rfl (NQ (⟨⟨(k12,(IntKind.i64.wrap (s11.1+1),x19.b)),H⟩,Z,Lm p7 p2⟩)))
    refine Wk (Qb (Qn ?_))
    exact Wg (R 2 rfl (NQ (⟨⟨(k12,(IntKind.i64.wrap (s11.1+1),x16.b)),H⟩,Z,Lm p7 p2⟩)))
   refine WC.exit (Qx (Qx (Qh (Qb (Qn ?_)))))
   exact ⟨s11.2,H,Lw q4 p2⟩
  ·rintro E m ⟨s8,H,hl⟩
   refine WC.lessW hl ?_
   replace H:=(hK7 _).symm.trans H
   try dsimp only at H
   exact Wg (R 2 rfl (NQ (⟨⟨(k5,(IntKind.i64.wrap (s4.1+1),s8)),H⟩,Z,Lm p4 p2⟩)))
 refine WC.exit (Qx (Qx (Qh (Qn ?_))))
 refine G (R 1 rfl ?_)
 obtain ⟨x20,hx20,H⟩:=al H
 refine Cl [4190] (eG 119 4190 rfl _ hx20) eH rfl p2 rfl (R 2 rfl (NQ (Wt ?_)))
 cases H
 exact Ea rfl rfl rfl tv
theorem yR:aD Tryz.prog 53 Tryz.f53:=⟨Tryz.func53,rfl,by kernel_rfl⟩
theorem Bh (a0:aq) {r:ByteArray×Int} (H:pF a0=some r):LJ.Spec Tryz.prog 54 [.d (.agg [.int .i64 a0.Op, .int .i64 a0.A, .int .i64 a0.B])] [] (.tup [.d (.str r.1), .d (.int .i64 r.2)]) []:=by
 refine LJ.Spec.code Tryz.func54 rfl 51 rfl rfl [] rfl fun w0 F0 S0 B0=>?_
 unfold pF at H
 refine G (Ef 101 rfl (R 2 rfl (NS (G (R 1 rfl ?_)))))
 obtain ⟨x1,hx1,H⟩:=al H
 refine Cl [] (l8 _ hx1) l9 rfl tv rfl (R 1 rfl (N (R 2 rfl (NQ (Wd rfl H (fun H=>?_) (fun H=>?_))))))
 ·refine G (R 3 rfl (NQ (Wt (QT.r ?_))))
  cases H
  exact Ea rfl rfl rfl tv
 refine Wk (Qn (Ws ?_))
 obtain ⟨x4_4_1,hx4_4_1,H⟩:=al H
 refine WC.heldF [(1, .ptr 101 0),(5, .ptr 115 0),(6, .d (.str x4_4_1)),(7, .ptr 107 0)] [(101, .box 100 [.d (.int .i64 a0.Op), .d (.int .i64 a0.A), .d (.int .i64 a0.B)]),(107, .box 161 [.d (.int .i64 a0.A), .d (.int .i64 a0.B)]),(115, .box 59 [.d (.nils)])] (sT 0 (sT 2 (sT 3 (sT 5 (sT 6 (sT 7 (sT 8 (sT 9 (fk (sf 1 (fk (sf 4 (sf 10 (sT 11 (sT 12 (sf 13 sd))))) (sf 10 (sf 4 (sT 11 (sT 12 (sf 13 sd))))))) (fk (sf 4 (fk (sf 1 (sf 10 (sT 11 (sT 12 (sf 13 sd))))) (sf 10 (sf 1 (sT 11 (sT 12 (sf 13 sd))))))) (sf 10 (fk (sf 1 (sf 4 (sT 11 (sT 12 (sf 13 sd))))) (sf 4 (sf 1 (sT 11 (sT 12 (sf 13 sd))))))))))))))))) [101] [101] rfl (by kernel_rfl) rfl (by kernel_rfl) rfl rfl (fun _ h=>h) rfl rfl rfl (fun FK NK wK K=>?_) ?_
 ·refine Hr 7 tk rfl rfl rfl rfl tv (WH.yv rfl (LJ.Y.buildArr 2 [.int .i64 0, .int .i64 0] [.int .i64 a0.A, .int .i64 a0.B] (by kernel_rfl) (by kernel_rfl) rfl rfl rfl) rfl rfl rfl (WH.fork ?_ (WH.fork ?_ ?_)))
  ·refine He 115 tk ek rfl rfl rfl rfl tv rfl rfl (WH.fork ?_ ?_)
   ·exact WH.call [] rfl (gd _ hx4_4_1) gf rfl rfl tv rfl rfl rfl rfl rfl (WH.allocZ 107 [.int .i64 0, .int .i64 0] rfl rfl (by kernel_rfl) rfl rfl rfl rfl rfl rfl (WH.mv rfl rfl rfl rfl rfl rfl rfl rfl rfl (Hr 1 tk rfl rfl rfl rfl tv (He 0 tk ek rfl rfl rfl rfl tv rfl rfl (Hn rfl (Lw q4 p3))))))
   ·exact WH.allocZ 107 [.int .i64 0, .int .i64 0] rfl rfl (by kernel_rfl) rfl rfl rfl rfl rfl rfl (WH.call [] rfl (gd _ hx4_4_1) gf rfl rfl tv rfl rfl rfl rfl rfl (WH.mv rfl rfl rfl rfl rfl rfl rfl rfl rfl (Hr 1 tk rfl rfl rfl rfl tv (He 0 tk ek rfl rfl rfl rfl tv rfl rfl (Hn rfl (Lw q4 p3))))))
  ·refine WH.call [] rfl (gd _ hx4_4_1) gf rfl rfl tv rfl rfl rfl rfl rfl (WH.fork ?_ ?_)
   ·exact He 115 tk ek rfl rfl rfl rfl tv rfl rfl (WH.allocZ 107 [.int .i64 0, .int .i64 0] rfl rfl (by kernel_rfl) rfl rfl rfl rfl rfl rfl (WH.mv rfl rfl rfl rfl rfl rfl rfl rfl rfl (Hr 1 tk rfl rfl rfl rfl tv (He 0 tk ek rfl rfl rfl rfl tv rfl rfl (Hn rfl (Lw q4 p3))))))
   ·exact WH.allocZ 107 [.int .i64 0, .int .i64 0] rfl rfl (by kernel_rfl) rfl rfl rfl rfl rfl rfl (He 115 tk ek rfl rfl rfl rfl tv rfl rfl (WH.mv rfl rfl rfl rfl rfl rfl rfl rfl rfl (Hr 1 tk rfl rfl rfl rfl tv (He 0 tk ek rfl rfl rfl rfl tv rfl rfl (Hn rfl (Lw q4 p3))))))
  ·refine WH.allocZ 107 [.int .i64 0, .int .i64 0] rfl rfl (by kernel_rfl) rfl rfl rfl rfl rfl rfl (WH.fork ?_ ?_)
   ·exact He 115 tk ek rfl rfl rfl rfl tv rfl rfl (WH.call [] rfl (gd _ hx4_4_1) gf rfl rfl tv rfl rfl rfl rfl rfl (WH.mv rfl rfl rfl rfl rfl rfl rfl rfl rfl (Hr 1 tk rfl rfl rfl rfl tv (He 0 tk ek rfl rfl rfl rfl tv rfl rfl (Hn rfl (Lw q4 p3))))))
   ·exact WH.call [] rfl (gd _ hx4_4_1) gf rfl rfl tv rfl rfl rfl rfl rfl (He 115 tk ek rfl rfl rfl rfl tv rfl rfl (WH.mv rfl rfl rfl rfl rfl rfl rfl rfl rfl (Hr 1 tk rfl rfl rfl rfl tv (He 0 tk ek rfl rfl rfl rfl tv rfl rfl (Hn rfl (Lw q4 p3))))))
 ·refine Qn (G (R 3 rfl (WL.nilF 115 0 4150 5 1 rfl (WL.row 4150 (bE ByteArray.empty) rfl rfl rfl ?_))))
  obtain ⟨x3,hx3,H⟩:=al H
  refine Cl [4150] (fA 115 4150 rfl _ _ hx3) fB rfl p2 rfl (NS (G (R 3 rfl (NQ (Wb (Wl (ι:= {x:Nat×(Int×ByteArray) //eJ a0 x4_4_1 x.1 x.2=some r}) (fun x=>[(5, .ptr 115 0),(6, .d (.str x4_4_1)),(7, .ptr 107 0),(29, .d (.int .i64 (x4_4_1.size:Int))),(30, .d (.int .i64 x.1.2.1))]) (fun x=>[(107, .box 161 [.d (.int .i64 a0.A), .d (.int .i64 a0.B)]),(115, .box 59 [.own 4150]),(4150, .row 5 1 (bE x.1.2.2))]) (fun x=>x.1.1) ⟨(fuel,(0,x3.b)),H⟩ (Lm p5 p3) fun x=>?_))))))
  obtain ⟨⟨k5,s4⟩,H⟩:=x
  rcases k5 with _ | k5
  ·exact aP H
  rw [eJ] at H
  refine G (R 1 rfl (NS (Wd rfl H (fun H=>?_) (fun H=>?_))))
  ·refine Wk (Qn (Ws (Wb (G (R 2 rfl (NS (Wg ?_)))))))
   obtain ⟨g7,H⟩:=av H
   refine RS 4 rfl ⟨(an g7),tv⟩ (NQ (Wd rfl H (fun H=>?_) (fun H=>?_)))
   ·refine Wg (R 2 rfl ?_)
    obtain ⟨g9,H⟩:=av H
    refine WL.yv (LJ.Y.idxPtrA 2 s4.1 (by kernel_rfl) rfl rfl rfl (an g9)) rfl rfl rfl (WL.yv (LJ.Y.loadPtrA 2 0 (fun k=> .int .i64 (([a0.A,a0.B]:List Int).getD k default)) s4.1 rfl rfl rfl (by kernel_rfl) rfl (an g9)) rfl rfl rfl ?_)
    obtain ⟨x10,hx10,H⟩:=al H
    refine Cl [4150] (gg 115 4150 rfl _ _ hx10) gh rfl p2 rfl (Wn (Qb (Qn ?_)))
    exact Wg (R 2 rfl (NQ (⟨⟨(k5,(IntKind.i64.wrap (s4.1+1),x10.b)),H⟩,Z,Lm p5 p3⟩)))
   refine Wg (R 2 rfl ?_)
   obtain ⟨g11,H⟩:=av H
   refine WL.yv (LJ.Y.idxPtrA 2 s4.1 (by kernel_rfl) rfl rfl rfl (an g11)) rfl rfl rfl (WL.yv (LJ.Y.loadPtrA 2 0 (fun k=> .int .i64 (([a0.A,a0.B]:List Int).getD k default)) s4.1 rfl rfl rfl (by kernel_rfl) rfl (an g11)) rfl rfl rfl (R 1 rfl ?_))
   obtain ⟨x12,hx12,H⟩:=al H
   refine Cl [4150] (bx 115 4150 rfl _ _ hx12) bA rfl p2 rfl (Wn (Qb (Qn ?_)))
   exact Wg (R 2 rfl (NQ (⟨⟨(k5,(IntKind.i64.wrap (s4.1+1),x12.b)),H⟩,Z,Lm p5 p3⟩)))
  refine WC.exit (Qx (Qx (Qh (Qn ?_))))
  refine G (R 1 rfl ?_)
  obtain ⟨x13,hx13,H⟩:=al H
  refine Cl [4150] (eG 115 4150 rfl _ hx13) eH rfl p2 rfl (R 2 rfl (NQ (Wt ?_)))
  cases H
  exact Ea rfl rfl rfl tv
theorem Bi:aD Tryz.prog 54 Tryz.f54:=⟨Tryz.func54,rfl,by kernel_rfl⟩
def ρb:Go.Shelf.Ren:=⟨fun n=>cond (Nat.beq n 169) 55 0,fun n=>cond (Nat.beq n 127) 162 (cond (Nat.beq n 72) 109 (cond (Nat.beq n 70) 107 (cond (Nat.beq n 37) 57 (cond (Nat.beq n 9) 9 (cond (Nat.beq n 5) 5 (cond (Nat.beq n 3) 3 (cond (Nat.beq n 0) 0 (0)))))))),fun _=>0⟩
set_option maxRecDepth 100000 in
theorem DN:Go.Proofs.Lays.n169 Tryz.prog ρb:=by
 constructor <;> first | kernel_rfl | (intro w;kernel_rfl) | (intro w;rfl)
theorem ED:Go.Proofs.Builder.Extra Tryz.prog ρb:=by
 constructor <;> first | kernel_rfl | (intro w;kernel_rfl) | (intro w;rfl) | decide | (constructor <;> kernel_rfl)
theorem jP (a0:aH) {r:ByteArray} (H:cI a0=some r):LJ.Spec Tryz.prog 55 [.ptr 0 0] [(0, .box 109 [.optp a0.addr 0 0, .own 1]),(1, .row 5 1 (bE a0.buf))] (.d (.str r)) []:=by
 unfold cI at H
 cases H
 exact Spec.bldAny DN ED
theorem jQ (n0 n1:Nat) (hn:cD [n0,n1]=true) (a0:aH) {r:ByteArray} (H:cI a0=some r):LJ.Spec Tryz.prog 55 [.ptr n0 0] [(n0, .box 109 [.optp a0.addr n0 0, .own n1]),(n1, .row 5 1 (bE a0.buf))] (.d (.str r)) []:=
 Spec.names [n0,n1] hn rfl rfl (jP a0 H)
theorem jR:aD Tryz.prog 55 Tryz.f55:=⟨Tryz.func55,rfl,by kernel_rfl⟩
theorem yS (a0:aa) {r:ByteArray×Int} (H:mU a0=some r):LJ.Spec Tryz.prog 22 [.d (.agg [slT ah a0.Decls,slT ab a0.Waits,slT aj a0.Funcs])] [] (.tup [.d (.str r.1), .d (.int .i64 r.2)]) []:=by
 refine LJ.Spec.code Tryz.func22 rfl 96 rfl rfl [] rfl fun w0 F0 S0 B0=>?_
 unfold mU at H
 refine G (Ef 101 rfl (R 2 rfl (NS (G (R 1 rfl ?_)))))
 obtain ⟨x1,hx1,H⟩:=al H
 refine Cl [] (kN _ hx1) kO rfl tv rfl (R 1 rfl (N (R 2 rfl (NQ (Wd rfl H (fun H=>?_) (fun H=>?_))))))
 ·refine G (R 3 rfl (NQ (Wt (QT.r ?_))))
  cases H
  exact Ea rfl rfl rfl tv
 refine Wk (Qn (G (Wa 105 tk rfl rfl rfl (WL.nilP 105 0 105 rfl (WL.nilF 105 1 4051 5 1 rfl (WL.row 4051 (bE ByteArray.empty) rfl rfl rfl (N (R 2 rfl ?_))))))))
 obtain ⟨x3,hx3,H⟩:=al H
 refine Cl [] (yO _ hx3) yP rfl tv rfl (R 5 rfl (NS (Wg ?_)))
 obtain ⟨g4,H⟩:=av H
 refine RS 5 rfl ⟨(nL g4),tv⟩ ?_
 obtain ⟨x5,hx5,H⟩:=al H
 refine Cl [] (jN _ hx5) jO rfl tv rfl ?_
 obtain ⟨g6,H⟩:=av H
 refine RS 1 rfl ⟨(nL g6),tv⟩ ?_
 obtain ⟨x7,hx7,H⟩:=al H
 refine Cl [4051] (bL 105 4051 rfl _ _ hx7) bM rfl p2 rfl (NS (G (R 4 rfl (NQ (Wb (Wl (ι:= {x:Nat×(Int×Bool×ByteArray) //eu a0 x.1 x.2=some r}) (fun x=>[(1, .ptr 101 0),(5, .ptr 105 0),(38, .d (slT ab a0.Waits)),(39, .d (.int .i64 (a0.Waits.length:Int))),(40, .d (.int .i64 x.1.2.1))]) (fun x=>[(101, .box 28 [.d (slT ah a0.Decls), .d (slT ab a0.Waits), .d (slT aj a0.Funcs)]),(105, .box 109 [.optp x.1.2.2.1 105 0, .own 4051]),(4051, .row 5 1 (bE x.1.2.2.2))]) (fun x=>x.1.1) ⟨(fuel,(0,x7.2.2.addr,x7.2.2.buf)),H⟩ (Lm p5 p3) fun x=>?_))))))
 obtain ⟨⟨k9,s8⟩,H⟩:=x
 rcases k9 with _ | k9
 ·exact aP H
 rw [eu] at H
 refine G (R 1 rfl (NS (Wd rfl H (fun H=>?_) (fun H=>?_))))
 ·refine Wk (Qn (Ws (Wb (G ?_))))
  obtain ⟨g11,H⟩:=av H
  refine RS 3 rfl ⟨⟨(an g11).1,(an g11).2,rfl⟩,tv⟩ (N (R 3 rfl ?_))
  obtain ⟨x12,hx12,H⟩:=al H
  refine Cl [] (yQ _ _ hx12) yR rfl tv rfl (R 5 rfl (NQ (Wg (R 1 rfl ?_))))
  obtain ⟨x13,hx13,H⟩:=al H
  refine Cl [4051] (bL 105 4051 rfl _ _ hx13) bM rfl p2 rfl (Wn (Qb (Qn ?_)))
  exact Wg (R 2 rfl (NQ (⟨⟨(k9,(IntKind.i64.wrap (s8.1+1),x13.2.2.addr,x13.2.2.buf)),H⟩,Z,Lm p5 p3⟩)))
 refine WC.exit (Qx (Qx (Qh (Qn ?_))))
 refine G (R 3 rfl ?_)
 obtain ⟨x14,hx14,H⟩:=al H
 refine Cl [] (jN _ hx14) jO rfl tv rfl ?_
 obtain ⟨x15,hx15,H⟩:=al H
 refine Cl [4051] (bL 105 4051 rfl _ _ hx15) bM rfl p2 rfl (NS (G (R 4 rfl (NQ (Wb (Wl (ι:= {x:Nat×(Int×Bool×ByteArray) //di a0 x.1 x.2=some r}) (fun x=>[(5, .ptr 105 0),(60, .d (slT aj a0.Funcs)),(61, .d (.int .i64 (a0.Funcs.length:Int))),(62, .d (.int .i64 x.1.2.1))]) (fun x=>[(105, .box 109 [.optp x.1.2.2.1 105 0, .own 4051]),(4051, .row 5 1 (bE x.1.2.2.2))]) (fun x=>x.1.1) ⟨(fuel,(0,x15.2.2.addr,x15.2.2.buf)),H⟩ (Lm p4 p2) fun x=>?_))))))
 obtain ⟨⟨k17,s16⟩,H⟩:=x
 rcases k17 with _ | k17
 ·exact aP H
 rw [di] at H
 refine G (R 1 rfl (NS (Wd rfl H (fun H=>?_) (fun H=>?_))))
 ·refine Wk (Qn ?_)
  obtain ⟨K19,hK19,H⟩:=da H
  refine WC.cut (fun E m=>∃ s20:Bool×ByteArray,K19 s20=some r∧hJ E m [(5, .ptr 105 0),(60, .d (slT aj a0.Funcs)),(61, .d (.int .i64 (a0.Funcs.length:Int))),(62, .d (.int .i64 s16.1))] [(105, .box 109 [.optp s20.1 105 0, .own 4051]),(4051, .row 5 1 (bE s20.2))]) ?_ ?_
  ·refine Wb (G ?_)
   obtain ⟨g21,H⟩:=av H
   refine RS 2 rfl ⟨⟨(an g21).1,(an g21).2,rfl⟩,tv⟩ (Wa 113 tk rfl rfl rfl (Ef 0 rfl (NS (Hp (.one 0 true (.one 1 true (.one 3 true (.one 4 true (.one 7 true (.one 8 true (.one 9 true (.one 2 false (.one 5 false (.one 6 true (.one 10 false (.one 11 true (.one 12 false .done))))))))))))) [105,113] [113] rfl (by kernel_rfl) rfl (by kernel_rfl) rfl rfl (fun _ h=>h) rfl rfl rfl (fun _ _ _ h=>h) fun FK NK wK K=>(Hr 7 tk rfl rfl rfl rfl tv ?_)))))
   obtain ⟨x22,hx22,H⟩:=al H
   refine WH.call [] rfl (jN _ hx22) jO rfl rfl tv rfl rfl rfl rfl rfl ?_
   obtain ⟨x23,hx23,H⟩:=al H
   refine WH.call [] rfl (jN _ hx23) jO rfl rfl tv rfl rfl rfl rfl rfl ?_
   obtain ⟨g24,H⟩:=av H
   refine Hr 1 tk rfl rfl rfl rfl ⟨(nL g24),tv⟩ ?_
   obtain ⟨x25,hx25,H⟩:=al H
   refine WH.call [] rfl (jN _ hx25) jO rfl rfl tv rfl rfl rfl rfl rfl ?_
   obtain ⟨g26,H⟩:=av H
   refine Hr 1 tk rfl rfl rfl rfl ⟨(nL g26),tv⟩ ?_
   obtain ⟨x27,hx27,H⟩:=al H
   refine WH.call [4051] rfl (bL 105 4051 rfl _ _ hx27) bM rfl rfl p2 rfl rfl rfl rfl rfl (WH.nil rfl (Qn (G (R 4 rfl (NQ (Wb (Wl (ι:= {x:Nat×(Int×Bool×ByteArray) //e8 a0 s16 K19 x.1 x.2=some r}) (fun x=>[(5, .ptr 105 0),(60, .d (slT aj a0.Funcs)),(61, .d (.int .i64 (a0.Funcs.length:Int))),(62, .d (.int .i64 s16.1)),(80, .d (slT aB ((a0.Funcs.getD s16.1.toNat default).Code))),(81, .d (.int .i64 (((a0.Funcs.getD s16.1.toNat default).Code).length:Int))),(82, .d (.int .i64 x.1.2.1))]) (fun x=>[(105, .box 109 [.optp x.1.2.2.1 105 0, .own 4051]),(4051, .row 5 1 (bE x.1.2.2.2))]) (fun x=>x.1.1) ⟨(fuel,(0,x27.2.2.addr,x27.2.2.buf)),H⟩ (Lm p7 p2) fun x=>?_)))))))
   obtain ⟨⟨k29,s28⟩,H⟩:=x
   rcases k29 with _ | k29
   ·exact aP H
   rw [e8] at H
   refine G (R 1 rfl (NS (Wd rfl H (fun H=>?_) (fun H=>?_))))
   ·refine Wk (Qn (Ws (Wb (G ?_))))
    obtain ⟨g31,H⟩:=av H
    refine RS 2 rfl ⟨⟨(an g31).1,(an g31).2,rfl⟩,tv⟩ (Wa 115 tk rfl rfl rfl (Ef 0 rfl (N (R 1 rfl ?_))))
    obtain ⟨x32,hx32,H⟩:=al H
    refine Cl [] (Bh _ hx32) Bi rfl tv rfl (R 5 rfl (NQ (Wg (R 1 rfl ?_))))
    obtain ⟨x33,hx33,H⟩:=al H
    refine Cl [4051] (bL 105 4051 rfl _ _ hx33) bM rfl p2 rfl (Wn (Qb (Qn ?_)))
    exact Wg (R 2 rfl (NQ (⟨⟨(k29,(IntKind.i64.wrap (s28.1+1),x33.2.2.addr,x33.2.2.buf)),H⟩,Z,Lm p7 p2⟩)))
   refine WC.exit (Qx (Qx (Qh (Qb (Qn ?_)))))
   exact ⟨(s28.2.1,s28.2.2),H,Lw q4 p2⟩
  ·rintro E m ⟨s20,H,hl⟩
   refine WC.lessW hl ?_
   replace H:=(hK19 _).symm.trans H
   try dsimp only at H
   exact Wg (R 2 rfl (NQ (⟨⟨(k17,(IntKind.i64.wrap (s16.1+1),s20.1,s20.2)),H⟩,Z,Lm p4 p2⟩)))
 refine WC.exit (Qx (Qx (Qh (Qn ?_))))
 refine G ?_
 obtain ⟨x34,hx34,H⟩:=al H
 refine Cl [] (jQ 105 4051 rfl _ hx34) jR rfl p2 rfl (R 2 rfl (NQ (Wt ?_)))
 cases H
 exact Ea rfl rfl rfl tv
theorem yT:aD Tryz.prog 22 Tryz.f22:=⟨Tryz.func22,rfl,by kernel_rfl⟩
theorem oO (a0:ay) (a1:ByteArray) {r:ay} (H:eK a0 a1=some r):LJ.Spec Tryz.prog 23 [.ptr 0 0, .d (.str a1)] [(0, .box 59 [.own 1]),(1, .row 5 1 (bE a0.b))] (.tup []) [(1, .row 5 1 (bE r.b)),(0, .box 59 [.own 1])]:=by
 refine LJ.Spec.code Tryz.func23 rfl 20 rfl rfl [0] rfl fun w0 F0 S0 B0=>?_
 unfold eK at H
 refine Ws (G (R 2 rfl (NQ (Wc rfl (fun h=>absurd h (by decide)) (fun h=>?_)))))
 refine Wk (Qn (G (R 4 rfl ?_)))
 obtain ⟨x1,hx1,H⟩:=al H
 refine Cl [1] (bx 0 1 rfl _ _ hx1) bA rfl p2 rfl (NQ (Wg (R 6 rfl ?_)))
 obtain ⟨g2,H⟩:=av H
 refine WL.apps tk EB rfl rfl rfl (zS (bX g2)) (WL.row 1 (bE (x1.b++a1)) rfl (nY _ _).symm rfl (R 2 rfl (Ef 0 rfl (Wn ?_))))
 cases H
 exact Ends.auton rfl rfl rfl p2
theorem oP (n0 n1:Nat) (hn:cD [n0,n1]=true) (a0:ay) (a1:ByteArray) {r:ay} (H:eK a0 a1=some r):LJ.Spec Tryz.prog 23 [.ptr n0 0, .d (.str a1)] [(n0, .box 59 [.own n1]),(n1, .row 5 1 (bE a0.b))] (.tup []) [(n1, .row 5 1 (bE r.b)),(n0, .box 59 [.own n1])]:=
 Spec.names [n0,n1] hn rfl rfl (oO a0 a1 H)
theorem oQ:aD Tryz.prog 23 Tryz.f23:=⟨Tryz.func23,rfl,by kernel_rfl⟩
theorem ow (a0:ar) {r:ByteArray×Int} (H:iC a0=some r):LJ.Spec Tryz.prog 9 [.d (.agg [.int .i64 a0.Config.Mode, .int .i64 a0.Config.Workers, .int .i64 a0.Config.Quantum, .int .i64 a0.Config.Policy,slT ah a0.Program.Decls,slT ab a0.Program.Waits,slT aj a0.Program.Funcs,slT aA a0.Events])] [] (.tup [.d (.str r.1), .d (.int .i64 r.2)]) []:=by
 refine LJ.Spec.code Tryz.func9 rfl 86 rfl rfl [] rfl fun w0 F0 S0 B0=>?_
 unfold iC at H
 refine G (Ef 101 rfl (R 2 rfl (NS (G (R 1 rfl ?_)))))
 obtain ⟨x1,hx1,H⟩:=al H
 refine Cl [] (fv _ hx1) fw rfl tv rfl (R 1 rfl (N (R 2 rfl (NQ (Wd rfl H (fun H=>?_) (fun H=>?_))))))
 ·refine G (R 3 rfl (NQ (Wt (QT.r ?_))))
  cases H
  exact Ea rfl rfl rfl tv
 refine Wk (Qn (G (R 1 rfl (Ef 118 rfl (R 1 rfl (NS (G (R 12 rfl (Ef 131 rfl (WL.freezeT 131 aE ([a0.Config.Mode,a0.Config.Workers,a0.Config.Quantum,a0.Config.Policy]:List Int) rfl rfl rfl rfl (R 2 rfl (NQ (Wb (WC.nilF 118 0 4180 5 1 rfl (Wl (ι:= {x:Nat×(Int×ByteArray) //ew a0 x.1 x.2=some r}) (fun x=>[(1, .ptr 101 0),(5, .ptr 118 0),(31, .d (slT aE ([a0.Config.Mode,a0.Config.Workers,a0.Config.Quantum,a0.Config.Policy]:List Int))),(32, .d (.int .i64 (([a0.Config.Mode,a0.Config.Workers,a0.Config.Quantum,a0.Config.Policy]:List Int).length:Int))),(33, .d (.int .i64 x.1.2.1))]) (fun x=>[(101, .box 31 [.d (.int .i64 a0.Config.Mode), .d (.int .i64 a0.Config.Workers), .d (.int .i64 a0.Config.Quantum), .d (.int .i64 a0.Config.Policy), .d (slT ah a0.Program.Decls), .d (slT ab a0.Program.Waits), .d (slT aj a0.Program.Funcs), .d (slT aA a0.Events)]),(118, .box 59 [.own 4180]),(4180, .row 5 1 (bE x.1.2.2))]) (fun x=>x.1.1) ⟨(fuel,(0,ByteArray.empty)),H⟩ (Lm p5 p3) fun x=>?_)))))))))))))))
 obtain ⟨⟨k5,s4⟩,H⟩:=x
 rcases k5 with _ | k5
 ·exact aP H
 rw [ew] at H
 refine G (R 1 rfl (NS (Wd rfl H (fun H=>?_) (fun H=>?_))))
 ·refine Wk (Qn (Ws (Wb (G ?_))))
  obtain ⟨g7,H⟩:=av H
  refine RS 3 rfl ⟨⟨(an g7).1,(an g7).2,rfl⟩,tv⟩ (NQ (Wg (R 3 rfl ?_)))
  obtain ⟨x8,hx8,H⟩:=al H
  refine Cl [4180] (bx 118 4180 rfl _ _ hx8) bA rfl p2 rfl (Wn (Qb (Qn ?_)))
  exact Wg (R 2 rfl (NQ (⟨⟨(k5,(IntKind.i64.wrap (s4.1+1),x8.b)),H⟩,Z,Lm p5 p3⟩)))
 refine WC.exit (Qx (Qx (Qh (Qn ?_))))
 refine G (R 2 rfl ?_)
 obtain ⟨x9,hx9,H⟩:=al H
 refine Cl [] (yS _ hx9) yT rfl tv rfl (R 5 rfl (NS (G (R 2 rfl (NQ (Wd rfl H (fun H=>?_) (fun H=>?_)))))))
 ·refine G (R 3 rfl (NQ (Wt (QT.r ?_))))
  cases H
  exact Ea rfl rfl rfl tv
 refine Wk (Qn (G (R 2 rfl ?_)))
 obtain ⟨x11,hx11,H⟩:=al H
 refine Cl [4180] (oP 118 4180 rfl _ _ hx11) oQ rfl p2 rfl (N (R 5 rfl ?_))
 obtain ⟨x12,hx12,H⟩:=al H
 refine Cl [4180] (bx 118 4180 rfl _ _ hx12) bA rfl p2 rfl (NS (G (R 4 rfl (NQ (Wb (Wl (ι:= {x:Nat×(Int×ByteArray) //dj a0 x.1 x.2=some r}) (fun x=>[(5, .ptr 118 0),(61, .d (slT aA a0.Events)),(62, .d (.int .i64 (a0.Events.length:Int))),(63, .d (.int .i64 x.1.2.1))]) (fun x=>[(118, .box 59 [.own 4180]),(4180, .row 5 1 (bE x.1.2.2))]) (fun x=>x.1.1) ⟨(fuel,(0,x12.b)),H⟩ (Lm p4 p2) fun x=>?_))))))
 obtain ⟨⟨k14,s13⟩,H⟩:=x
 rcases k14 with _ | k14
 ·exact aP H
 rw [dj] at H
 refine G (R 1 rfl (NS (Wd rfl H (fun H=>?_) (fun H=>?_))))
 ·refine Wk (Qn (Ws (Wb (G ?_))))
  obtain ⟨g16,H⟩:=av H
  refine RS 2 rfl ⟨⟨(an g16).1,(an g16).2,rfl⟩,tv⟩ (Wa 111 tk rfl rfl rfl (Ef 0 rfl (N (R 3 rfl ?_))))
  obtain ⟨x17,hx17,H⟩:=al H
  refine Cl [4180] (fA 118 4180 rfl _ _ hx17) fB rfl p2 rfl (N (R 3 rfl ?_))
  obtain ⟨x18,hx18,H⟩:=al H
  refine Cl [4180] (gg 118 4180 rfl _ _ hx18) gh rfl p2 rfl (N (R 3 rfl (NQ (Wd rfl H (fun H=>?_) (fun H=>?_)))))
  ·refine Wg (R 3 rfl ?_)
   obtain ⟨x20,hx20,H⟩:=al H
   refine Cl [4180] (gg 118 4180 rfl _ _ hx20) gh rfl p2 rfl (Wn (Qb (Qn ?_)))
   exact Wg (R 2 rfl (NQ (⟨⟨(k14,(IntKind.i64.wrap (s13.1+1),x20.b)),H⟩,Z,Lm p4 p2⟩)))
  refine Wk (Qb (Qn ?_))
  exact Wg (R 2 rfl (NQ (⟨⟨(k14,(IntKind.i64.wrap (s13.1+1),x18.b)),H⟩,Z,Lm p4 p2⟩)))
 refine WC.exit (Qx (Qx (Qh (Qn ?_))))
 refine G (R 1 rfl ?_)
 obtain ⟨x21,hx21,H⟩:=al H
 refine Cl [4180] (eG 118 4180 rfl _ hx21) eH rfl p2 rfl ?_
 obtain ⟨g22,H⟩:=av H
 refine RS 3 rfl ⟨(nL g22),tv⟩ (NQ (Wt ?_))
 cases H
 exact Ea rfl rfl rfl tv
theorem ox:aD Tryz.prog 9 Tryz.f9:=⟨Tryz.func9,rfl,by kernel_rfl⟩
theorem nu {r:ar} (H:j3=some r):LJ.Spec Tryz.prog 33 [] [] (.d (.agg [.int .i64 r.Config.Mode, .int .i64 r.Config.Workers, .int .i64 r.Config.Quantum, .int .i64 r.Config.Policy,slT ah r.Program.Decls,slT ab r.Program.Waits,slT aj r.Program.Funcs,slT aA r.Events])) []:=by
 refine LJ.Spec.code Tryz.func33 rfl 12 rfl rfl [] rfl fun w0 F0 S0 B0=>?_
 unfold j3 at H
 refine G (Wa 100 tk rfl rfl rfl (N (R 3 rfl (Ef 104 rfl (WL.freezeT 104 aB ([(⟨22,0,0⟩:aq),(⟨21,0,0⟩:aq)]:List aq) rfl rfl rfl rfl (R 1 rfl (Ef 106 rfl (WL.freezeT 106 aj ([(⟨0,0,([(⟨22,0,0⟩:aq),(⟨21,0,0⟩:aq)]:List aq)⟩:aw)]:List aw) rfl rfl rfl rfl (R 1 rfl (WL.le 7 (.agg [slT ah [],slT ab [],slT aj ([(⟨0,0,([(⟨22,0,0⟩:aq),(⟨21,0,0⟩:aq)]:List aq)⟩:aw)]:List aw)]) rfl (Le.agg (.cons (Le.nilT ah) (.cons (Le.nilT ab) (.cons .rfl' .nil)))) (R 2 rfl (Ef 110 rfl ?_))))))))))))
 refine WL.freezeT 110 aA ([(⟨1,0,1⟩:ax),(⟨2,5,0⟩:ax)]:List ax) rfl rfl rfl rfl (R 1 rfl (Ef 0 rfl (NQ (Wt ?_))))
 cases H
 exact Ends.autoC tk rfl rfl rfl tv
theorem nv:aD Tryz.prog 33 Tryz.f33:=⟨Tryz.func33,rfl,by kernel_rfl⟩
theorem fR (a0:ByteArray) (a1:ByteArray) {r:Bool} (H:bZ a0 a1=some r):LJ.Spec Tryz.prog 91 [.d (.str a0), .d (.str a1)] [] (.d (.bool r)) []:=by
 refine LJ.Spec.code Tryz.func91 rfl 18 rfl rfl [] rfl fun w0 F0 S0 B0=>?_
 unfold bZ at H
 refine G (R 1 rfl (N (R 6 rfl ?_)))
 obtain ⟨g1,H⟩:=fx H
 refine Wx 6 5 true tk sg0 rfl rfl (fun hb=>⟨(rD (g1 hb)),tv⟩) (RS 2 rfl ⟨by first | exact id | exact fun h=>by rw [h];rfl | simp_all,tv⟩ (NQ (Wt ?_)))
 cases H
 exact Ea rfl rfl rfl tv
theorem fS:aD Tryz.prog 91 Tryz.f91:=⟨Tryz.func91,rfl,by kernel_rfl⟩
theorem jS (a0:ByteArray) (a1:ByteArray) {r:ByteArray×Bool} (H:dx a0 a1=some r):LJ.Spec Tryz.prog 60 [.d (.str a0), .d (.str a1)] [] (.tup [.d (.str r.1), .d (.bool r.2)]) []:=by
 refine LJ.Spec.code Tryz.func60 rfl 15 rfl rfl [] rfl fun w0 F0 S0 B0=>?_
 unfold dx at H
 refine G (R 2 rfl (NS (G (R 2 rfl ?_))))
 obtain ⟨x1,hx1,H⟩:=al H
 refine Cl [] (fR _ _ hx1) fS rfl tv rfl (R 1 rfl (NQ (Wd rfl H (fun H=>?_) (fun H=>?_))))
 ·refine G (R 3 rfl (NQ (Wt (QT.r ?_))))
  cases H
  exact Ea rfl rfl rfl tv
 refine Wk (Qn (G ?_))
 obtain ⟨g3,H⟩:=av H
 refine RS 6 rfl ⟨(rD g3),tv⟩ (NQ (Wt ?_))
 cases H
 exact Ea rfl rfl rfl tv
theorem jT:aD Tryz.prog 60 Tryz.f60:=⟨Tryz.func60,rfl,by kernel_rfl⟩
theorem ma (a0:ByteArray) (a1:ByteArray) {r:ByteArray×Bool} (H:fg a0 a1=some r):LJ.Spec Tryz.prog 34 [.d (.str a0), .d (.str a1)] [] (.tup [.d (.str r.1), .d (.bool r.2)]) []:=by
 refine LJ.Spec.code Tryz.func34 rfl 11 rfl rfl [] rfl fun w0 F0 S0 B0=>?_
 unfold fg at H
 refine G (R 2 rfl (N (R 2 rfl ?_)))
 obtain ⟨x1,hx1,H⟩:=al H
 refine Cl [] (jS _ _ hx1) jT rfl tv rfl (R 4 rfl (NQ (Wt ?_)))
 cases H
 exact Ea rfl rfl rfl tv
theorem mb:aD Tryz.prog 34 Tryz.f34:=⟨Tryz.func34,rfl,by kernel_rfl⟩
theorem vc (a0:ByteArray) {r:ak} (H:eL a0=some r):LJ.Spec Tryz.prog 36 [.d (.str a0)] [] (.ptr 0 0) [(0, .box 131 [.d (.str r.s), .d (.int .i64 r.at_), .d (.int .i64 r.err)])]:=by
 refine LJ.Spec.code Tryz.func36 rfl 6 rfl rfl [] rfl fun w0 F0 S0 B0=>?_
 unfold eL at H
 refine G (R 1 rfl (N (R 2 rfl (Ef 0 rfl (R 1 rfl (NQ (Wt ?_)))))))
 cases H
 exact Ea rfl rfl rfl p1
theorem gX (n0:Nat) (hn:cD [n0]=true) (a0:ByteArray) {r:ak} (H:eL a0=some r):LJ.Spec Tryz.prog 36 [.d (.str a0)] [] (.ptr n0 0) [(n0, .box 131 [.d (.str r.s), .d (.int .i64 r.at_), .d (.int .i64 r.err)])]:=
 Spec.names [n0] hn rfl rfl (vc a0 H)
theorem gY:aD Tryz.prog 36 Tryz.f36:=⟨Tryz.func36,rfl,by kernel_rfl⟩
theorem qG (a0:ak) (a1:Int) {r:ak} (H:dc a0 a1=some r):LJ.Spec Tryz.prog 92 [.ptr 0 0, .d (.int .i64 a1)] [(0, .box 131 [.d (.str a0.s), .d (.int .i64 a0.at_), .d (.int .i64 a0.err)])] (.tup []) [(0, .box 131 [.d (.str r.s), .d (.int .i64 r.at_), .d (.int .i64 r.err)])]:=by
 refine LJ.Spec.code Tryz.func92 rfl 21 rfl rfl [0] rfl fun w0 F0 S0 B0=>?_
 unfold dc at H
 refine G (R 5 rfl (NQ (Wd rfl H (fun H=>?_) (fun H=>?_))))
 ·refine Wg (R 10 rfl (Ef 0 rfl (R 2 rfl (Ef 0 rfl (Wn ?_)))))
  cases H
  exact Ends.auton rfl rfl rfl p1
 refine Wk ?_
 cases H
 exact Ends.auton rfl rfl rfl p1
theorem i7 (n0:Nat) (hn:cD [n0]=true) (a0:ak) (a1:Int) {r:ak} (H:dc a0 a1=some r):LJ.Spec Tryz.prog 92 [.ptr n0 0, .d (.int .i64 a1)] [(n0, .box 131 [.d (.str a0.s), .d (.int .i64 a0.at_), .d (.int .i64 a0.err)])] (.tup []) [(n0, .box 131 [.d (.str r.s), .d (.int .i64 r.at_), .d (.int .i64 r.err)])]:=
 Spec.names [n0] hn rfl rfl (qG a0 a1 H)
theorem i9:aD Tryz.prog 92 Tryz.f92:=⟨Tryz.func92,rfl,by kernel_rfl⟩
theorem qH (a0:ak) {r:Int×ak} (H:bV a0=some r):LJ.Spec Tryz.prog 96 [.ptr 0 0] [(0, .box 131 [.d (.str a0.s), .d (.int .i64 a0.at_), .d (.int .i64 a0.err)])] (.d (.int .i64 r.1)) [(0, .box 131 [.d (.str r.2.s), .d (.int .i64 r.2.at_), .d (.int .i64 r.2.err)])]:=by
 refine LJ.Spec.code Tryz.func96 rfl 35 rfl rfl [0] rfl fun w0 F0 S0 B0=>?_
 unfold bV at H
 refine G (R 1 rfl (NS (G (R 2 rfl (NQ (Wc rfl (fun h=>absurd h (by decide)) (fun h=>?_)))))))
 refine Wk (Qn (Ws (Ws (Hp (.one 0 true (.one 1 true (.one 2 true (.one 3 true (.one 4 true (.one 5 true (.one 6 true (.one 7 true (.one 8 true (.one 9 true .done)))))))))) [0] [0] rfl (by kernel_rfl) rfl (by kernel_rfl) rfl rfl (fun _ h=>h) rfl rfl rfl (fun _ _ _ h=>h) fun FK NK wK K=>(Hr 10 tk rfl rfl rfl rfl tv (WH.nil rfl (Qn (Wd rfl H (fun H=>?_) (fun H=>?_)))))))))
 ·refine G (R 1 rfl ?_)
  obtain ⟨x2,hx2,H⟩:=al H
  refine Cl [] (i7 0 rfl _ _ hx2) i9 rfl p1 rfl (N (R 1 rfl (NQ (Wt (QT.r ?_)))))
  cases H
  exact Ea rfl rfl rfl p1
 refine Wk (Qn (G (R 7 rfl (Ef 0 rfl (NS (Hp (.one 0 true (.one 1 true (.one 2 true (.one 3 true (.one 4 true (.one 5 true (.one 6 true (.one 7 true (.one 8 true (.one 9 true (.one 10 true (.one 11 true .done)))))))))))) [0] [0] rfl (by kernel_rfl) rfl (by kernel_rfl) rfl rfl (fun _ h=>h) rfl rfl rfl (fun _ _ _ h=>h) fun FK NK wK K=>?_))))))
 obtain ⟨g3,H⟩:=av H
 refine Hr 12 tk rfl rfl rfl rfl ⟨(an g3),tv⟩ (WH.nil rfl (Qn (Wt ?_)))
 cases H
 exact Ea rfl rfl rfl p1
theorem fc (n0:Nat) (hn:cD [n0]=true) (a0:ak) {r:Int×ak} (H:bV a0=some r):LJ.Spec Tryz.prog 96 [.ptr n0 0] [(n0, .box 131 [.d (.str a0.s), .d (.int .i64 a0.at_), .d (.int .i64 a0.err)])] (.d (.int .i64 r.1)) [(n0, .box 131 [.d (.str r.2.s), .d (.int .i64 r.2.at_), .d (.int .i64 r.2.err)])]:=
 Spec.names [n0] hn rfl rfl (qH a0 H)
theorem fe:aD Tryz.prog 96 Tryz.f96:=⟨Tryz.func96,rfl,by kernel_rfl⟩
end Go.Proofs.YtdebndfaknfefaaGreatDoor.W
