import Derived.Test.YtfbdapchaofeoaaOctQ
import Derived.Test.YtfbdapchaofeoaaProg
namespace Go.Proofs.Ytfbdapchaofeoaa.Oct
open Go Go.RowKit LJ
set_option linter.unusedVariables false
set_option linter.unusedSimpArgs false
set_option maxRecDepth 10000

section
variable {s : ByteArray} (hs : s.size ≤ 140737488351232)
include hs
theorem once_v : 0 ≤ (nOut s 10 0 0 0 0).1 ∧ (nOut s 10 0 0 0 0).1 < 18446744073709551616 := (nOut_spec s (by omega) 10 0 0 0 rfl (by decide) (by decide) (by decide) (by decide) (by omega)).1
theorem once_e (h : decide ((nOut s 10 0 0 0 0).2.2 ≠ 0) = false) : IntKind.i64.wrap (s.size - (nOut s 10 0 0 0 0).2.1) = s.size - (nOut s 10 0 0 0 0).2.1 ∧ IntKind.i64.wrap (s.size - (s.size - (nOut s 10 0 0 0 0).2.1)) = (nOut s 10 0 0 0 0).2.1 ∧
    (0 ≤ (nOut s 10 0 0 0 0).2.1 ∧ (nOut s 10 0 0 0 0).2.1 ≤ s.size) ∧ numB (nOut s 10 0 0 0 0).1.toNat = s.extract 0 (nOut s 10 0 0 0 0).2.1.toNat := by
  have he : (nOut s 10 0 0 0 0).2.2 = 0 := by simpa using h
  obtain ⟨m, g1, g2, g3, g4, _⟩ := (nOut_spec s (by omega) 10 0 0 0 rfl (by decide) (by decide) (by decide) (by decide) (by omega)).2 (by decide) he
  have g1' : (nOut s 10 0 0 0 0).1 = (m : Int) := by
    have : (nOut s 10 (0 : Nat) 0 0 0).1 = (nOut s 10 0 0 0 0).1 := rfl
    rw [← this, g1]; omega
  have g3' : 0 < (nOut s 10 0 0 0 0).2.1 := g3
  have g4' : (nOut s 10 0 0 0 0).2.1 ≤ s.size := g4
  refine ⟨w64_id (by omega), by rw [w64_id (by omega)]; omega, ⟨by omega, g4'⟩, ?_⟩
  rw [g1', Int.toNat_natCast]
  exact g2
end
theorem app_ok' {a : Int} (h0 : 0 ≤ a) (h : a < 18446744073709551616) : (strOf [] ++ numB a.toNat).size ≤ 140737488355328 := by
  have := app_ok (a := a.toNat) (by omega)
  rwa [Int.toNat_of_nonneg h0] at this

/-! ### logjam/logjamlaw01.OctetOnce -/
theorem once (s : ByteArray) (sign : Bool) (hs : s.size ≤ 140737488351232) : LJ.Spec Try.prog 3 [.d (.str s), .d (.bool sign)] [] (.d (.bool true)) [] := by
  have hv := once_v hs
  refine LJ.Spec.pure Try.func3 rfl 51 rfl rfl fun w0 F0 S0 B0 => ?_
  refine WC.seq ?_
  refine WC.region ?_
  refine WL.run 1 tt_ok rgl rfl rfl trivial ?_
  refine WL.nil ?_
  refine QT.n ?_
  refine WC.seq ?_
  refine WC.region ?_
  refine WL.run 1 tt_ok rgl rfl rfl trivial ?_
  refine WL.eff 108 tt_ok et_ok eg rfl rfl rfl trivial ?_
  refine WL.run 1 tt_ok rgl rfl rfl trivial ?_
  refine WL.eff 110 tt_ok et_ok eg rfl rfl rfl trivial ?_
  refine WL.run 2 tt_ok rgl rfl rfl trivial ?_
  refine WL.nil ?_
  refine QT.n ?_
  refine WC.seq ?_
  refine WC.seq ?_
  refine WC.region ?_
  refine WL.run 2 tt_ok rgl rfl rfl trivial ?_
  refine WL.nil ?_
  refine QT.n ?_
  refine WC.cond rfl (fun h1 => absurd h1 (by decide)) (fun h1 => ?_)
  refine WC.skip ?_
  refine QT.n ?_
  refine WC.seq ?_
  refine WC.seq ?_
  refine WC.region ?_
  refine WL.nilF 110 0 210 5 1 rfl ?_
  refine WL.run 1 tt_ok rgl rfl rfl trivial ?_
  refine WL.nil ?_
  refine QT.n ?_
  refine WC.cond rfl (fun h2 => ?_) (fun h2 => ?_)
  · refine WC.region ?_
    refine WL.run 2 tt_ok rgl rfl rfl trivial ?_
    refine WL.eff 116 tt_ok et_ok eg rfl rfl rfl ⟨by decide, by omega⟩ ?_
    refine WL.eff 117 tt_ok et_ok eg rfl rfl rfl ⟨rfl, by rw [zig_zag hv.1 hv.2]; exact app_ok' hv.1 hv.2, by rw [zig_zag hv.1 hv.2]; exact hv.1⟩ ?_
    refine WL.nil ?_
    refine QT.n ?_
    refine WC.seq ?_
    refine WC.seq ?_
    refine WC.region ?_
    refine WL.run 3 tt_ok rgl rfl rfl trivial ?_
    refine WL.nil ?_
    refine QT.n ?_
    refine WC.cond rfl (fun h3 => ?_) (fun h3 => ?_)
    · refine WC.seq ?_
      refine WC.region ?_
      refine WL.run 2 tt_ok rgl rfl rfl trivial ?_
      refine WL.nil ?_
      refine QT.n ?_
      refine WC.ret ?_
      refine QT.r ?_
      refine Ends.auto rfl rfl ?_ trivial
      first | rfl | exact congrArg (fun b => AV.d (.bool b)) (by simp only [strOf_rowOf, nil_app, zig_zag hv.1 hv.2, hf.1, hf.2.1, hf.2.2.2]; simp)
    · refine WC.skip ?_
      refine QT.n ?_
      refine WC.seq ?_
      refine WC.region ?_
      have hf := once_e hs h3
      refine WL.run 4 tt_ok rgl rfl rfl trivial ?_
      refine WL.known true (g := 29) rfl (by simp only [strOf_rowOf, nil_app, zig_zag hv.1 hv.2, hf.1, hf.2.1, hf.2.2.2]; exact decide_eq_true (by omega)) ?_
      refine WL.grun 5 3 true 29 tt_ok rgl rfl rfl rfl rfl trivial ?_
      refine WL.run 2 tt_ok rgl rfl rfl trivial ?_
      refine WL.known true (g := 36) rfl (by simp only [strOf_rowOf, nil_app, zig_zag hv.1 hv.2, hf.1, hf.2.1, hf.2.2.2]; simp; omega) ?_
      refine WL.grun 10 10 true 36 tt_ok rgl rfl rfl rfl rfl ⟨by simp only [strOf_rowOf], by rw [hf.1, hf.2.1]; exact hf.2.2.1, trivial⟩ ?_
      refine WL.run 2 tt_ok rgl rfl rfl trivial ?_
      refine WL.known true (g := 48) rfl (by simp only [strOf_rowOf, nil_app, zig_zag hv.1 hv.2, hf.1, hf.2.1, hf.2.2.2]; simp) ?_
      refine WL.grun 1 22 true 48 tt_ok rgl rfl rfl rfl rfl trivial ?_
      refine WL.run 2 tt_ok rgl rfl rfl trivial ?_
      refine WL.nil ?_
      refine QT.n ?_
      refine WC.ret ?_
      refine Ends.auto rfl rfl ?_ trivial
      first | rfl | exact congrArg (fun b => AV.d (.bool b)) (by simp only [strOf_rowOf, nil_app, zig_zag hv.1 hv.2, hf.1, hf.2.1, hf.2.2.2]; simp)
  · refine WC.region ?_
    refine WL.run 2 tt_ok rgl rfl rfl trivial ?_
    refine WL.eff 120 tt_ok et_ok eg rfl rfl rfl ⟨by decide, by omega⟩ ?_
    refine WL.eff 121 tt_ok et_ok eg rfl rfl rfl ⟨rfl, app_ok' hv.1 hv.2, hv.1⟩ ?_
    refine WL.nil ?_
    refine QT.n ?_
    refine WC.seq ?_
    refine WC.seq ?_
    refine WC.region ?_
    refine WL.run 3 tt_ok rgl rfl rfl trivial ?_
    refine WL.nil ?_
    refine QT.n ?_
    refine WC.cond rfl (fun h3 => ?_) (fun h3 => ?_)
    · refine WC.seq ?_
      refine WC.region ?_
      refine WL.run 2 tt_ok rgl rfl rfl trivial ?_
      refine WL.nil ?_
      refine QT.n ?_
      refine WC.ret ?_
      refine QT.r ?_
      refine Ends.auto rfl rfl ?_ trivial
      first | rfl | exact congrArg (fun b => AV.d (.bool b)) (by simp only [strOf_rowOf, nil_app, zig_zag hv.1 hv.2, hf.1, hf.2.1, hf.2.2.2]; simp)
    · refine WC.skip ?_
      refine QT.n ?_
      refine WC.seq ?_
      refine WC.region ?_
      have hf := once_e hs h3
      refine WL.run 4 tt_ok rgl rfl rfl trivial ?_
      refine WL.known true (g := 29) rfl (by simp only [strOf_rowOf, nil_app, zig_zag hv.1 hv.2, hf.1, hf.2.1, hf.2.2.2]; exact decide_eq_true (by omega)) ?_
      refine WL.grun 5 3 true 29 tt_ok rgl rfl rfl rfl rfl trivial ?_
      refine WL.run 2 tt_ok rgl rfl rfl trivial ?_
      refine WL.known true (g := 36) rfl (by simp only [strOf_rowOf, nil_app, zig_zag hv.1 hv.2, hf.1, hf.2.1, hf.2.2.2]; simp; omega) ?_
      refine WL.grun 10 10 true 36 tt_ok rgl rfl rfl rfl rfl ⟨by simp only [strOf_rowOf], by rw [hf.1, hf.2.1]; exact hf.2.2.1, trivial⟩ ?_
      refine WL.run 2 tt_ok rgl rfl rfl trivial ?_
      refine WL.known true (g := 48) rfl (by simp only [strOf_rowOf, nil_app, zig_zag hv.1 hv.2, hf.1, hf.2.1, hf.2.2.2]; simp) ?_
      refine WL.grun 1 22 true 48 tt_ok rgl rfl rfl rfl rfl trivial ?_
      refine WL.run 2 tt_ok rgl rfl rfl trivial ?_
      refine WL.nil ?_
      refine QT.n ?_
      refine WC.ret ?_
      refine Ends.auto rfl rfl ?_ trivial
      first | rfl | exact congrArg (fun b => AV.d (.bool b)) (by simp only [strOf_rowOf, nil_app, zig_zag hv.1 hv.2, hf.1, hf.2.1, hf.2.2.2]; simp)

end Go.Proofs.Ytfbdapchaofeoaa.Oct
