/- Each Go function comes to what its plain function gives, where that gives something. -/
import Derived.Test.YtdebndfaknfefaaGreatDoorPF
import Derived.Test.YtdebndfaknfefaaGreatDoorSq
import Derived.Test.YtdebndfaknfefaaGreatDoorWF3
import Derived.Test.YtdebndfaknfefaaGreatDoorXByt
import Derived.Test.YtdebndfaknfefaaGreatDoorXDef
import Derived.Test.YtdebndfaknfefaaGreatDoorXPan
import Derived.Test.YtdebndfaknfefaaGreatDoorXShelf
namespace Go.Proofs.YtdebndfaknfefaaGreatDoor.W
open Go Go.RowKit LJ
set_option linter.unusedVariables false
set_option linter.unusedSimpArgs false
set_option maxRecDepth 10000
theorem wv (a0:aa) {r:Bool} (H:kh a0=some r):LJ.Spec Tryz.prog 18 [.d (.agg [slT aj a0.Decls,slT ab a0.Waits,slT ak a0.Funcs])] [] (.d (.bool r)) []:=by
 refine LJ.Spec.code Tryz.func18 rfl 14 rfl rfl [] rfl fun w0 F0 S0 B0=>?_
 unfold kh at H
 refine G (Ef 101 rfl (R 1 rfl (N (R 1 rfl ?_))))
 obtain ⟨x1,hx1,H⟩:=al H
 refine Cl [] (lQ _ hx1) lR rfl tv rfl (R 7 rfl (N (R 3 rfl (NQ (Wt ?_)))))
 cases H
 exact Ea rfl rfl rfl tv
theorem wx:aE Tryz.prog 18 Tryz.f18:=⟨Tryz.func18,rfl,by kernel_rfl⟩
theorem ni (a0:ByteArray) {r:Bool} (H:fQ a0=some r):LJ.Spec Tryz.prog 5 [.d (.str a0)] [] (.d (.bool r)) []:=by
 refine LJ.Spec.code Tryz.func5 rfl 47 rfl rfl [] rfl fun w0 F0 S0 B0=>?_
 unfold fQ at H
 refine G (R 1 rfl (N (R 1 rfl ?_)))
 obtain ⟨x1,hx1,H⟩:=al H
 refine Cl [] (pK _ hx1) pL rfl tv rfl (R 3 rfl (Wa 103 tk rfl rfl rfl (Ef 0 rfl (R 1 rfl (NS (G (R 2 rfl (NQ (Wd rfl H (fun H=>?_) (fun H=>?_))))))))))
 ·refine G (R 1 rfl (R 1 rfl (WL.le 15 (.agg [.int .i64 0, .int .i64 0, .int .i64 0, .int .i64 0,slT aj [],slT ab [],slT ak [],slT aB []]) rfl (Le.agg (.cons .rfl' (.cons .rfl' (.cons .rfl' (.cons .rfl' (.cons (Le.nilT aj) (.cons (Le.nilT ab) (.cons (Le.nilT ak) (.cons (Le.nilT aB) .nil))))))))) ?_)))
  obtain ⟨x3,hx3,H⟩:=al H
  refine Cl [] (pM _ _ hx3) pN rfl tv rfl (R 1 rfl ?_)
  obtain ⟨x4,hx4,H⟩:=al H
  refine Wx 1 3 true tk [PSig.at' kV (x3=true) rfl (fun hb=>kU (of_t hx4 hb))] rfl rfl (fun hb=>⟨⟨hb,rfl⟩,tv⟩) (RS 2 rfl ⟨by first | exact id | exact fun h=>by rw [h];rfl | simp_all,tv⟩ (NQ (Wt (QT.r ?_))))
  cases H
  exact Ea rfl rfl rfl tv
 refine Wk (Qn (G (R 1 rfl ?_)))
 obtain ⟨x5,hx5,H⟩:=al H
 refine Cl [] (jx _ hx5) jy rfl tv rfl ?_
 obtain ⟨x6,hx6,H⟩:=al H
 refine Cl [] (l8 _ hx6) l9 rfl tv rfl (R 5 rfl (N (R 2 rfl ?_)))
 obtain ⟨x7,hx7,H⟩:=al H
 refine Cl [] (wv _ hx7) wx rfl tv rfl (R 1 rfl ?_)
 obtain ⟨x8,hx8,H⟩:=al H
 obtain ⟨x9,hx9,H⟩:=al H
 refine Wx 4 3 true tk [PSig.at' jy (x7=true) rfl (fun hb=>jx _ (of_t hx8 hb)),PSig.at' ej (x7=true) rfl (fun hb=>ei _ (of_t hx9 hb))] rfl rfl (fun hb=>⟨⟨hb,rfl⟩,⟨hb,rfl⟩,tv⟩) (RS 2 rfl ⟨by first | exact id | exact fun h=>by rw [h];rfl | simp_all,tv⟩ (Wx 2 9 true tk sg0 rfl rfl (fun _=>tv) (RS 2 rfl ⟨by first | exact id | exact fun h=>by rw [h];rfl | simp_all,tv⟩ (Wx 3 13 true tk sg0 rfl rfl (fun _=>tv) (RS 2 rfl ⟨by first | exact id | exact fun h=>by rw [h];rfl | simp_all,tv⟩ ?_)))))
 obtain ⟨x10,hx10,H⟩:=al H
 refine Wx 1 18 true tk [PSig.at' kV ((((x7&&(iEq x9 0))&&(iEq x6.2 0))&&(sEq x6.1 a0))=true) rfl (fun hb=>kU (of_t hx10 hb))] rfl rfl (fun hb=>⟨⟨hb,rfl⟩,tv⟩) (RS 2 rfl ⟨by first | exact id | exact fun h=>by rw [h];rfl | simp_all,tv⟩ (NQ (Wt ?_)))
 cases H
 exact Ea rfl rfl rfl tv
end Go.Proofs.YtdebndfaknfefaaGreatDoor.W
