/- Each Go function comes to what its plain function gives, where that gives something. -/
import Derived.Test.YtdgnolnlcflmmaaDoorPF
import Derived.Test.YtdgnolnlcflmmaaDoorProg
import Derived.Test.YtdgnolnlcflmmaaDoorXShelf
namespace Go.Proofs.YtdgnolnlcflmmaaDoor.W
open Go Go.RowKit LJ
set_option linter.unusedVariables false
set_option linter.unusedSimpArgs false
set_option maxRecDepth 10000
/-- The types that the walks meet. -/
def tt : List (Nat × TK) := [(3, .int .i64), (4, .bool), (5, .int .u8), (9, .str), (22, .slice 48 3), (23, .slice 51 1), (28, .int .i64), (42, .int .u64), (48, .struct 3 [(0, 1, true), (1, 1, true), (2, 1, true)] [.int .i64 0, .int .i64 0, .int .i64 0]), (50, .struct 3 [(0, 1, true), (1, 1, true), (2, 1, true)] [.int .i64 0, .int .i64 0, .int .i64 0]), (51, .slice 50 3), (53, .ptr), (54, .slice 5 1), (56, .struct 1 [(0, 1, true)] [.nils]), (63, .ptr), (74, .ptr), (76, .struct 2 [(0, 1, true), (1, 1, true)] [.nilp, .nils]), (78, .one), (82, .slice 9 1), (83, .int .u64), (91, .struct 3 [(0, 1, true), (1, 1, true), (2, 1, true)] [.str .empty, .int .i64 0, .int .i64 0]), (98, .ptr), (105, .one)]
theorem tt_ok : ttOK Tryd.prog tt = true := by kernel_rfl
/-- Elements of the slices that are appended to: cells, bytes. -/
def et : List (Nat × Nat × Nat) := [(5, 1, 1), (9, 1, 16), (48, 3, 24), (50, 3, 24), (51, 1, 24)]
theorem et_ok : etOK Tryd.prog et = true := by kernel_rfl
theorem eb_ok : byteB Tryd.prog 5 = true := by kernel_rfl
def sg0 : List (PSig Tryd.prog) := []
def eg0 : List (ESig Tryd.prog) := []
/-! ### logjam/decl.Fits -/
theorem decl_Fits_0 (a0 : List T_api_Decl) (a1 : Int) (a2 : Int) {r : Bool} (H : decl_Fits a0 a1 a2 = some r) : LJ.Spec Tryd.prog 59 [.d (slT enc_api_Decl a0), .d (.int .u8 a1), .d (.int .i64 a2)] [] (.d (.bool r)) [] := by
  refine LJ.Spec.code Tryd.func59 rfl 62 rfl rfl [] rfl fun w0 F0 S0 B0 => ?_
  unfold decl_Fits at H
  refine WC.seq ?_
  refine WC.region ?_
  refine WL.run 1 tt_ok sg0 rfl rfl trivial ?_
  refine WL.nil ?_
  refine QT.n ?_
  refine WC.seq ?_
  refine WC.seq ?_
  refine WC.region ?_
  refine WL.run 3 tt_ok sg0 rfl rfl trivial ?_
  refine WL.sect 4 2 false tt_ok sg0 rfl rfl (fun _ => trivial) ?_
  refine WL.run 1 tt_ok sg0 rfl rfl ⟨by first | exact id | exact fun h => by rw [h]; rfl | simp_all, trivial⟩ ?_
  refine WL.nil ?_
  refine QT.n ?_
  refine WC.cond rfl (fun h1 => ?_) (fun h1 => ?_)
  · replace H := of_t H h1
    refine WC.seq ?_
    refine WC.region ?_
    refine WL.run 1 tt_ok sg0 rfl rfl trivial ?_
    refine WL.nil ?_
    refine QT.n ?_
    refine WC.ret ?_
    refine QT.r ?_
    cases H
    exact Ends.auto rfl rfl rfl trivial
  replace H := of_f H h1
  refine WC.skip ?_
  refine QT.n ?_
  refine WC.seq ?_
  refine WC.region ?_
  obtain ⟨g2, H⟩ := of_need H
  refine WL.run 6 tt_ok sg0 rfl rfl ⟨⟨(nIn_ok g2).1, (nIn_ok g2).2, rfl⟩, trivial⟩ ?_
  refine WL.nil ?_
  refine QT.n ?_
  refine WC.seq ?_
  refine WC.seq ?_
  refine WC.region ?_
  refine WL.run 1 tt_ok sg0 rfl rfl trivial ?_
  refine WL.nil ?_
  refine QT.n ?_
  refine WC.block ?_
  refine WC.seq ?_
  refine WC.region ?_
  refine WL.run 2 tt_ok sg0 rfl rfl trivial ?_
  refine WL.nil ?_
  refine QT.n ?_
  refine WC.cond rfl (fun h3 => ?_) (fun h3 => ?_)
  · replace H := of_t H h3
    refine WC.seq ?_
    refine WC.region ?_
    refine WL.run 3 tt_ok sg0 rfl rfl trivial ?_
    refine WL.sect 2 2 false tt_ok sg0 rfl rfl (fun _ => trivial) ?_
    refine WL.run 2 tt_ok sg0 rfl rfl ⟨by first | exact id | exact fun h => by rw [h]; rfl | simp_all, trivial⟩ ?_
    refine WL.nil ?_
    refine QT.n ?_
    refine WC.ret ?_
    refine QB.r (QT.r ?_)
    cases H
    exact Ends.auto rfl rfl rfl trivial
  replace H := of_f H h3
  refine WC.seq ?_
  refine WC.region ?_
  refine WL.run 2 tt_ok sg0 rfl rfl trivial ?_
  refine WL.nil ?_
  refine QT.n ?_
  refine WC.cond rfl (fun h4 => ?_) (fun h4 => ?_)
  · replace H := of_t H h4
    refine WC.seq ?_
    refine WC.region ?_
    refine WL.run 3 tt_ok sg0 rfl rfl trivial ?_
    refine WL.nil ?_
    refine QT.n ?_
    refine WC.ret ?_
    refine QB.r (QT.r ?_)
    cases H
    exact Ends.auto rfl rfl rfl trivial
  replace H := of_f H h4
  refine WC.seq ?_
  refine WC.region ?_
  refine WL.run 2 tt_ok sg0 rfl rfl trivial ?_
  refine WL.nil ?_
  refine QT.n ?_
  refine WC.cond rfl (fun h5 => ?_) (fun h5 => ?_)
  · replace H := of_t H h5
    refine WC.seq ?_
    refine WC.region ?_
    refine WL.run 3 tt_ok sg0 rfl rfl trivial ?_
    refine WL.nil ?_
    refine QT.n ?_
    refine WC.ret ?_
    refine QB.r (QT.r ?_)
    cases H
    exact Ends.auto rfl rfl rfl trivial
  replace H := of_f H h5
  refine WC.seq ?_
  refine WC.region ?_
  refine WL.run 2 tt_ok sg0 rfl rfl trivial ?_
  refine WL.nil ?_
  refine QT.n ?_
  refine WC.cond rfl (fun h6 => ?_) (fun h6 => ?_)
  · replace H := of_t H h6
    refine WC.seq ?_
    refine WC.region ?_
    refine WL.run 3 tt_ok sg0 rfl rfl trivial ?_
    refine WL.nil ?_
    refine QT.n ?_
    refine WC.ret ?_
    refine QB.r (QT.r ?_)
    cases H
    exact Ends.auto rfl rfl rfl trivial
  replace H := of_f H h6
  refine WC.seq ?_
  refine WC.region ?_
  refine WL.run 2 tt_ok sg0 rfl rfl trivial ?_
  refine WL.nil ?_
  refine QT.n ?_
  refine WC.cond rfl (fun h7 => ?_) (fun h7 => ?_)
  · replace H := of_t H h7
    refine WC.seq ?_
    refine WC.region ?_
    refine WL.run 3 tt_ok sg0 rfl rfl trivial ?_
    refine WL.nil ?_
    refine QT.n ?_
    refine WC.ret ?_
    refine QB.r (QT.r ?_)
    cases H
    exact Ends.auto rfl rfl rfl trivial
  replace H := of_f H h7
  refine WC.seq ?_
  refine WC.region ?_
  refine WL.run 2 tt_ok sg0 rfl rfl trivial ?_
  refine WL.nil ?_
  refine QT.n ?_
  refine WC.cond rfl (fun h8 => ?_) (fun h8 => ?_)
  · replace H := of_t H h8
    refine WC.seq ?_
    refine WC.region ?_
    refine WL.run 3 tt_ok sg0 rfl rfl trivial ?_
    refine WL.nil ?_
    refine QT.n ?_
    refine WC.ret ?_
    refine QB.r (QT.r ?_)
    cases H
    exact Ends.auto rfl rfl rfl trivial
  replace H := of_f H h8
  refine WC.seq ?_
  refine WC.region ?_
  refine WL.run 2 tt_ok sg0 rfl rfl trivial ?_
  refine WL.nil ?_
  refine QT.n ?_
  refine WC.cond rfl (fun h9 => ?_) (fun h9 => ?_)
  · replace H := of_t H h9
    refine WC.seq ?_
    refine WC.region ?_
    refine WL.run 3 tt_ok sg0 rfl rfl trivial ?_
    refine WL.nil ?_
    refine QT.n ?_
    refine WC.ret ?_
    refine QB.r (QT.r ?_)
    cases H
    exact Ends.auto rfl rfl rfl trivial
  replace H := of_f H h9
  refine WC.seq ?_
  refine WC.region ?_
  refine WL.run 2 tt_ok sg0 rfl rfl trivial ?_
  refine WL.nil ?_
  refine QT.n ?_
  refine WC.cond rfl (fun h10 => ?_) (fun h10 => ?_)
  · replace H := of_t H h10
    refine WC.seq ?_
    refine WC.region ?_
    refine WL.run 3 tt_ok sg0 rfl rfl trivial ?_
    refine WL.sect 2 2 false tt_ok sg0 rfl rfl (fun _ => trivial) ?_
    refine WL.run 2 tt_ok sg0 rfl rfl ⟨by first | exact id | exact fun h => by rw [h]; rfl | simp_all, trivial⟩ ?_
    refine WL.nil ?_
    refine QT.n ?_
    refine WC.ret ?_
    refine QB.r (QT.r ?_)
    cases H
    exact Ends.auto rfl rfl rfl trivial
  replace H := of_f H h10
  refine WC.skip ?_
  refine QB.n (QT.n ?_)
  refine WC.seq ?_
  refine WC.region ?_
  refine WL.run 1 tt_ok sg0 rfl rfl trivial ?_
  refine WL.nil ?_
  refine QT.n ?_
  refine WC.ret ?_
  cases H
  exact Ends.auto rfl rfl rfl trivial
theorem decl_Fits_f : hasFunc Tryd.prog 59 Tryd.f59 := ⟨Tryd.func59, rfl, by kernel_rfl⟩

/-! ### logjam/need.counted -/
theorem need_counted_0 (a0 : Int) {r : Bool} (H : need_counted a0 = some r) : LJ.Spec Tryd.prog 27 [.d (.int .i64 a0)] [] (.d (.bool r)) [] := by
  refine LJ.Spec.code Tryd.func27 rfl 9 rfl rfl [] rfl fun w0 F0 S0 B0 => ?_
  unfold need_counted at H
  refine WC.seq ?_
  refine WC.region ?_
  refine WL.run 1 tt_ok sg0 rfl rfl trivial ?_
  refine WL.nil ?_
  refine QT.n ?_
  refine WC.seq ?_
  refine WC.region ?_
  refine WL.run 3 tt_ok sg0 rfl rfl trivial ?_
  refine WL.sect 2 2 false tt_ok sg0 rfl rfl (fun _ => trivial) ?_
  refine WL.run 2 tt_ok sg0 rfl rfl ⟨by first | exact id | exact fun h => by rw [h]; rfl | simp_all, trivial⟩ ?_
  refine WL.nil ?_
  refine QT.n ?_
  refine WC.ret ?_
  cases H
  exact Ends.auto rfl rfl rfl trivial
theorem need_counted_f : hasFunc Tryd.prog 27 Tryd.f27 := ⟨Tryd.func27, rfl, by kernel_rfl⟩

/-! ### logjam/need.one -/
theorem need_one_0 (a0 : List T_api_Decl) (a1 : T_api_Need) {r : Int} (H : need_one a0 a1 = some r) : LJ.Spec Tryd.prog 44 [.d (slT enc_api_Decl a0), .d (.agg [.int .i64 a1.Kind, .int .i64 a1.Obj, .int .i64 a1.N])] [] (.d (.int .i64 r)) [] := by
  refine LJ.Spec.code Tryd.func44 rfl 74 rfl rfl [] rfl fun w0 F0 S0 B0 => ?_
  unfold need_one at H
  refine WC.seq ?_
  refine WC.region ?_
  refine WL.eff 103 tt_ok et_ok eg0 rfl rfl rfl trivial ?_
  refine WL.run 1 tt_ok sg0 rfl rfl trivial ?_
  refine WL.nil ?_
  refine QT.n ?_
  refine WC.seq ?_
  refine WC.region ?_
  refine WL.run 2 tt_ok sg0 rfl rfl trivial ?_
  refine WL.nil ?_
  refine QT.n ?_
  refine WC.seq ?_
  refine WC.seq ?_
  refine WC.region ?_
  refine WL.run 2 tt_ok sg0 rfl rfl trivial ?_
  refine WL.nil ?_
  refine QT.n ?_
  refine WC.block ?_
  refine WC.seq ?_
  refine WC.region ?_
  refine WL.run 2 tt_ok sg0 rfl rfl trivial ?_
  refine WL.nil ?_
  refine QT.n ?_
  refine WC.cond rfl (fun h1 => ?_) (fun h1 => ?_)
  · replace H := of_t H h1
    refine WC.region ?_
    refine WL.run 1 tt_ok sg0 rfl rfl trivial ?_
    refine WL.nil ?_
    refine QB.n (QT.n ?_)
    refine WC.seq ?_
    refine WC.seq ?_
    refine WC.region ?_
    refine WL.run 4 tt_ok sg0 rfl rfl trivial ?_
    obtain ⟨x2, hx2, H⟩ := of_bind H
    refine WL.call [] (decl_Fits_0 _ _ _ hx2) decl_Fits_f rfl rfl trivial rfl rfl rfl ?_
    refine WL.run 2 tt_ok sg0 rfl rfl trivial ?_
    refine WL.sect 3 6 false tt_ok sg0 rfl rfl (fun _ => trivial) ?_
    obtain ⟨g3, H⟩ := of_needS H
    refine WL.sect 7 9 true tt_ok sg0 rfl rfl (fun hb => ⟨⟨(nIn_ok (g3 hb)).1, (nIn_ok (g3 hb)).2, rfl⟩, trivial⟩) ?_
    refine WL.sect 1 6 false tt_ok sg0 rfl rfl (fun hb => ⟨by first | exact id | exact ⟨hb, fun h => by rw [hb, h]; rfl⟩ | exact ⟨hb, id⟩ | exact fun h => by rw [hb, h]; rfl | exact fun h => by rw [h]; rfl | simp_all, trivial⟩) ?_
    refine WL.run 1 tt_ok sg0 rfl rfl ⟨by first | exact id | exact fun h => by rw [h]; rfl | simp_all, trivial⟩ ?_
    refine WL.nil ?_
    refine QT.n ?_
    refine WC.cond rfl (fun h4 => ?_) (fun h4 => ?_)
    · replace H := of_t H h4
      refine WC.seq ?_
      refine WC.region ?_
      refine WL.run 1 tt_ok sg0 rfl rfl trivial ?_
      refine WL.nil ?_
      refine QT.n ?_
      refine WC.ret ?_
      refine QT.r ?_
      cases H
      exact Ends.auto rfl rfl rfl trivial
    replace H := of_f H h4
    refine WC.skip ?_
    refine QT.n ?_
    refine WC.seq ?_
    refine WC.seq ?_
    refine WC.region ?_
    refine WL.run 2 tt_ok sg0 rfl rfl trivial ?_
    refine WL.nil ?_
    refine QT.n ?_
    refine WC.block ?_
    refine WC.seq ?_
    refine WC.region ?_
    refine WL.run 2 tt_ok sg0 rfl rfl trivial ?_
    refine WL.nil ?_
    refine QT.n ?_
    refine WC.cond rfl (fun h5 => ?_) (fun h5 => ?_)
    · replace H := of_t H h5
      refine WC.region ?_
      obtain ⟨g6, H⟩ := of_need H
      refine WL.run 7 tt_ok sg0 rfl rfl ⟨⟨(nIn_ok g6).1, (nIn_ok g6).2, rfl⟩, trivial⟩ ?_
      refine WL.nil ?_
      refine QB.n (QT.n ?_)
      refine WC.seq ?_
      refine WC.seq ?_
      refine WC.region ?_
      refine WL.run 2 tt_ok sg0 rfl rfl trivial ?_
      obtain ⟨x7, hx7, H⟩ := of_bind H
      refine WL.call [] (need_counted_0 _ hx7) need_counted_f rfl rfl trivial rfl rfl rfl ?_
      refine WL.run 1 tt_ok sg0 rfl rfl trivial ?_
      refine WL.sect 3 3 true tt_ok sg0 rfl rfl (fun _ => trivial) ?_
      refine WL.run 2 tt_ok sg0 rfl rfl ⟨by first | exact id | exact fun h => by rw [h]; rfl | simp_all, trivial⟩ ?_
      refine WL.sect 3 8 false tt_ok sg0 rfl rfl (fun _ => trivial) ?_
      refine WL.run 2 tt_ok sg0 rfl rfl ⟨by first | exact id | exact fun h => by rw [h]; rfl | simp_all, trivial⟩ ?_
      refine WL.sect 4 13 false tt_ok sg0 rfl rfl (fun _ => trivial) ?_
      refine WL.run 1 tt_ok sg0 rfl rfl ⟨by first | exact id | exact fun h => by rw [h]; rfl | simp_all, trivial⟩ ?_
      refine WL.nil ?_
      refine QT.n ?_
      refine WC.cond rfl (fun h8 => ?_) (fun h8 => ?_)
      · replace H := of_t H h8
        refine WC.seq ?_
        refine WC.region ?_
        refine WL.run 1 tt_ok sg0 rfl rfl trivial ?_
        refine WL.nil ?_
        refine QT.n ?_
        refine WC.ret ?_
        refine QT.r ?_
        cases H
        exact Ends.auto rfl rfl rfl trivial
      replace H := of_f H h8
      refine WC.skip ?_
      refine QT.n ?_
      refine WC.seq ?_
      refine WC.region ?_
      refine WL.run 1 tt_ok sg0 rfl rfl trivial ?_
      refine WL.nil ?_
      refine QT.n ?_
      refine WC.ret ?_
      cases H
      exact Ends.auto rfl rfl rfl trivial
    replace H := of_f H h5
    refine WC.seq ?_
    refine WC.region ?_
    refine WL.run 2 tt_ok sg0 rfl rfl trivial ?_
    refine WL.nil ?_
    refine QT.n ?_
    refine WC.cond rfl (fun h9 => ?_) (fun h9 => ?_)
    · replace H := of_t H h9
      refine WC.region ?_
      obtain ⟨g10, H⟩ := of_need H
      refine WL.run 7 tt_ok sg0 rfl rfl ⟨⟨(nIn_ok g10).1, (nIn_ok g10).2, rfl⟩, trivial⟩ ?_
      refine WL.nil ?_
      refine QB.n (QT.n ?_)
      refine WC.seq ?_
      refine WC.seq ?_
      refine WC.region ?_
      refine WL.run 2 tt_ok sg0 rfl rfl trivial ?_
      obtain ⟨x11, hx11, H⟩ := of_bind H
      refine WL.call [] (need_counted_0 _ hx11) need_counted_f rfl rfl trivial rfl rfl rfl ?_
      refine WL.run 1 tt_ok sg0 rfl rfl trivial ?_
      refine WL.sect 3 3 true tt_ok sg0 rfl rfl (fun _ => trivial) ?_
      refine WL.run 2 tt_ok sg0 rfl rfl ⟨by first | exact id | exact fun h => by rw [h]; rfl | simp_all, trivial⟩ ?_
      refine WL.sect 3 8 false tt_ok sg0 rfl rfl (fun _ => trivial) ?_
      refine WL.run 2 tt_ok sg0 rfl rfl ⟨by first | exact id | exact fun h => by rw [h]; rfl | simp_all, trivial⟩ ?_
      refine WL.sect 4 13 false tt_ok sg0 rfl rfl (fun _ => trivial) ?_
      refine WL.run 1 tt_ok sg0 rfl rfl ⟨by first | exact id | exact fun h => by rw [h]; rfl | simp_all, trivial⟩ ?_
      refine WL.nil ?_
      refine QT.n ?_
      refine WC.cond rfl (fun h12 => ?_) (fun h12 => ?_)
      · replace H := of_t H h12
        refine WC.seq ?_
        refine WC.region ?_
        refine WL.run 1 tt_ok sg0 rfl rfl trivial ?_
        refine WL.nil ?_
        refine QT.n ?_
        refine WC.ret ?_
        refine QT.r ?_
        cases H
        exact Ends.auto rfl rfl rfl trivial
      replace H := of_f H h12
      refine WC.skip ?_
      refine QT.n ?_
      refine WC.seq ?_
      refine WC.region ?_
      refine WL.run 1 tt_ok sg0 rfl rfl trivial ?_
      refine WL.nil ?_
      refine QT.n ?_
      refine WC.ret ?_
      cases H
      exact Ends.auto rfl rfl rfl trivial
    replace H := of_f H h9
    refine WC.skip ?_
    refine QB.n (QT.n ?_)
    refine WC.seq ?_
    refine WC.seq ?_
    refine WC.region ?_
    refine WL.run 2 tt_ok sg0 rfl rfl trivial ?_
    obtain ⟨x13, hx13, H⟩ := of_bind H
    refine WL.call [] (need_counted_0 _ hx13) need_counted_f rfl rfl trivial rfl rfl rfl ?_
    refine WL.run 1 tt_ok sg0 rfl rfl trivial ?_
    refine WL.sect 3 3 true tt_ok sg0 rfl rfl (fun _ => trivial) ?_
    refine WL.run 2 tt_ok sg0 rfl rfl ⟨by first | exact id | exact fun h => by rw [h]; rfl | simp_all, trivial⟩ ?_
    refine WL.sect 3 8 false tt_ok sg0 rfl rfl (fun _ => trivial) ?_
    refine WL.run 2 tt_ok sg0 rfl rfl ⟨by first | exact id | exact fun h => by rw [h]; rfl | simp_all, trivial⟩ ?_
    refine WL.sect 4 13 false tt_ok sg0 rfl rfl (fun _ => trivial) ?_
    refine WL.run 1 tt_ok sg0 rfl rfl ⟨by first | exact id | exact fun h => by rw [h]; rfl | simp_all, trivial⟩ ?_
    refine WL.nil ?_
    refine QT.n ?_
    refine WC.cond rfl (fun h14 => ?_) (fun h14 => ?_)
    · replace H := of_t H h14
      refine WC.seq ?_
      refine WC.region ?_
      refine WL.run 1 tt_ok sg0 rfl rfl trivial ?_
      refine WL.nil ?_
      refine QT.n ?_
      refine WC.ret ?_
      refine QT.r ?_
      cases H
      exact Ends.auto rfl rfl rfl trivial
    replace H := of_f H h14
    refine WC.skip ?_
    refine QT.n ?_
    refine WC.seq ?_
    refine WC.region ?_
    refine WL.run 1 tt_ok sg0 rfl rfl trivial ?_
    refine WL.nil ?_
    refine QT.n ?_
    refine WC.ret ?_
    cases H
    exact Ends.auto rfl rfl rfl trivial
  replace H := of_f H h1
  refine WC.seq ?_
  refine WC.seq ?_
  refine WC.region ?_
  refine WL.run 2 tt_ok sg0 rfl rfl trivial ?_
  refine WL.nil ?_
  refine QT.n ?_
  refine WC.cond rfl (fun h15 => ?_) (fun h15 => ?_)
  · replace H := of_t H h15
    refine WC.known (g := 11) true rfl h15 ?_
    refine WC.skip ?_
    refine QT.n ?_
    refine WC.cond rfl (fun h => ?_) (fun h => absurd h (by decide))
    refine WC.skip ?_
    refine QB.n (QT.n ?_)
    refine WC.seq ?_
    refine WC.seq ?_
    refine WC.region ?_
    refine WL.run 4 tt_ok sg0 rfl rfl trivial ?_
    obtain ⟨x16, hx16, H⟩ := of_bind H
    refine WL.call [] (decl_Fits_0 _ _ _ hx16) decl_Fits_f rfl rfl trivial rfl rfl rfl ?_
    refine WL.run 2 tt_ok sg0 rfl rfl trivial ?_
    refine WL.sect 3 6 false tt_ok sg0 rfl rfl (fun _ => trivial) ?_
    obtain ⟨g17, H⟩ := of_needS H
    refine WL.sect 7 9 true tt_ok sg0 rfl rfl (fun hb => ⟨⟨(nIn_ok (g17 hb)).1, (nIn_ok (g17 hb)).2, rfl⟩, trivial⟩) ?_
    refine WL.sect 1 6 false tt_ok sg0 rfl rfl (fun hb => ⟨by first | exact id | exact ⟨hb, fun h => by rw [hb, h]; rfl⟩ | exact ⟨hb, id⟩ | exact fun h => by rw [hb, h]; rfl | exact fun h => by rw [h]; rfl | simp_all, trivial⟩) ?_
    refine WL.run 1 tt_ok sg0 rfl rfl ⟨by first | exact id | exact fun h => by rw [h]; rfl | simp_all, trivial⟩ ?_
    refine WL.nil ?_
    refine QT.n ?_
    refine WC.cond rfl (fun h18 => ?_) (fun h18 => ?_)
    · replace H := of_t H h18
      refine WC.seq ?_
      refine WC.region ?_
      refine WL.run 1 tt_ok sg0 rfl rfl trivial ?_
      refine WL.nil ?_
      refine QT.n ?_
      refine WC.ret ?_
      refine QT.r ?_
      cases H
      exact Ends.auto rfl rfl rfl trivial
    replace H := of_f H h18
    refine WC.skip ?_
    refine QT.n ?_
    refine WC.seq ?_
    refine WC.seq ?_
    refine WC.region ?_
    refine WL.run 2 tt_ok sg0 rfl rfl trivial ?_
    refine WL.nil ?_
    refine QT.n ?_
    refine WC.block ?_
    refine WC.seq ?_
    refine WC.region ?_
    refine WL.run 2 tt_ok sg0 rfl rfl trivial ?_
    refine WL.nil ?_
    refine QT.n ?_
    refine WC.cond rfl (fun h19 => ?_) (fun h19 => ?_)
    · replace H := of_t H h19
      refine WC.region ?_
      obtain ⟨g20, H⟩ := of_need H
      refine WL.run 7 tt_ok sg0 rfl rfl ⟨⟨(nIn_ok g20).1, (nIn_ok g20).2, rfl⟩, trivial⟩ ?_
      refine WL.nil ?_
      refine QB.n (QT.n ?_)
      refine WC.seq ?_
      refine WC.seq ?_
      refine WC.region ?_
      refine WL.run 2 tt_ok sg0 rfl rfl trivial ?_
      obtain ⟨x21, hx21, H⟩ := of_bind H
      refine WL.call [] (need_counted_0 _ hx21) need_counted_f rfl rfl trivial rfl rfl rfl ?_
      refine WL.run 1 tt_ok sg0 rfl rfl trivial ?_
      refine WL.sect 3 3 true tt_ok sg0 rfl rfl (fun _ => trivial) ?_
      refine WL.run 2 tt_ok sg0 rfl rfl ⟨by first | exact id | exact fun h => by rw [h]; rfl | simp_all, trivial⟩ ?_
      refine WL.sect 3 8 false tt_ok sg0 rfl rfl (fun _ => trivial) ?_
      refine WL.run 2 tt_ok sg0 rfl rfl ⟨by first | exact id | exact fun h => by rw [h]; rfl | simp_all, trivial⟩ ?_
      refine WL.sect 4 13 false tt_ok sg0 rfl rfl (fun _ => trivial) ?_
      refine WL.run 1 tt_ok sg0 rfl rfl ⟨by first | exact id | exact fun h => by rw [h]; rfl | simp_all, trivial⟩ ?_
      refine WL.nil ?_
      refine QT.n ?_
      refine WC.cond rfl (fun h22 => ?_) (fun h22 => ?_)
      · replace H := of_t H h22
        refine WC.seq ?_
        refine WC.region ?_
        refine WL.run 1 tt_ok sg0 rfl rfl trivial ?_
        refine WL.nil ?_
        refine QT.n ?_
        refine WC.ret ?_
        refine QT.r ?_
        cases H
        exact Ends.auto rfl rfl rfl trivial
      replace H := of_f H h22
      refine WC.skip ?_
      refine QT.n ?_
      refine WC.seq ?_
      refine WC.region ?_
      refine WL.run 1 tt_ok sg0 rfl rfl trivial ?_
      refine WL.nil ?_
      refine QT.n ?_
      refine WC.ret ?_
      cases H
      exact Ends.auto rfl rfl rfl trivial
    replace H := of_f H h19
    refine WC.seq ?_
    refine WC.region ?_
    refine WL.run 2 tt_ok sg0 rfl rfl trivial ?_
    refine WL.nil ?_
    refine QT.n ?_
    refine WC.cond rfl (fun h23 => ?_) (fun h23 => ?_)
    · replace H := of_t H h23
      refine WC.region ?_
      obtain ⟨g24, H⟩ := of_need H
      refine WL.run 7 tt_ok sg0 rfl rfl ⟨⟨(nIn_ok g24).1, (nIn_ok g24).2, rfl⟩, trivial⟩ ?_
      refine WL.nil ?_
      refine QB.n (QT.n ?_)
      refine WC.seq ?_
      refine WC.seq ?_
      refine WC.region ?_
      refine WL.run 2 tt_ok sg0 rfl rfl trivial ?_
      obtain ⟨x25, hx25, H⟩ := of_bind H
      refine WL.call [] (need_counted_0 _ hx25) need_counted_f rfl rfl trivial rfl rfl rfl ?_
      refine WL.run 1 tt_ok sg0 rfl rfl trivial ?_
      refine WL.sect 3 3 true tt_ok sg0 rfl rfl (fun _ => trivial) ?_
      refine WL.run 2 tt_ok sg0 rfl rfl ⟨by first | exact id | exact fun h => by rw [h]; rfl | simp_all, trivial⟩ ?_
      refine WL.sect 3 8 false tt_ok sg0 rfl rfl (fun _ => trivial) ?_
      refine WL.run 2 tt_ok sg0 rfl rfl ⟨by first | exact id | exact fun h => by rw [h]; rfl | simp_all, trivial⟩ ?_
      refine WL.sect 4 13 false tt_ok sg0 rfl rfl (fun _ => trivial) ?_
      refine WL.run 1 tt_ok sg0 rfl rfl ⟨by first | exact id | exact fun h => by rw [h]; rfl | simp_all, trivial⟩ ?_
      refine WL.nil ?_
      refine QT.n ?_
      refine WC.cond rfl (fun h26 => ?_) (fun h26 => ?_)
      · replace H := of_t H h26
        refine WC.seq ?_
        refine WC.region ?_
        refine WL.run 1 tt_ok sg0 rfl rfl trivial ?_
        refine WL.nil ?_
        refine QT.n ?_
        refine WC.ret ?_
        refine QT.r ?_
        cases H
        exact Ends.auto rfl rfl rfl trivial
      replace H := of_f H h26
      refine WC.skip ?_
      refine QT.n ?_
      refine WC.seq ?_
      refine WC.region ?_
      refine WL.run 1 tt_ok sg0 rfl rfl trivial ?_
      refine WL.nil ?_
      refine QT.n ?_
      refine WC.ret ?_
      cases H
      exact Ends.auto rfl rfl rfl trivial
    replace H := of_f H h23
    refine WC.skip ?_
    refine QB.n (QT.n ?_)
    refine WC.seq ?_
    refine WC.seq ?_
    refine WC.region ?_
    refine WL.run 2 tt_ok sg0 rfl rfl trivial ?_
    obtain ⟨x27, hx27, H⟩ := of_bind H
    refine WL.call [] (need_counted_0 _ hx27) need_counted_f rfl rfl trivial rfl rfl rfl ?_
    refine WL.run 1 tt_ok sg0 rfl rfl trivial ?_
    refine WL.sect 3 3 true tt_ok sg0 rfl rfl (fun _ => trivial) ?_
    refine WL.run 2 tt_ok sg0 rfl rfl ⟨by first | exact id | exact fun h => by rw [h]; rfl | simp_all, trivial⟩ ?_
    refine WL.sect 3 8 false tt_ok sg0 rfl rfl (fun _ => trivial) ?_
    refine WL.run 2 tt_ok sg0 rfl rfl ⟨by first | exact id | exact fun h => by rw [h]; rfl | simp_all, trivial⟩ ?_
    refine WL.sect 4 13 false tt_ok sg0 rfl rfl (fun _ => trivial) ?_
    refine WL.run 1 tt_ok sg0 rfl rfl ⟨by first | exact id | exact fun h => by rw [h]; rfl | simp_all, trivial⟩ ?_
    refine WL.nil ?_
    refine QT.n ?_
    refine WC.cond rfl (fun h28 => ?_) (fun h28 => ?_)
    · replace H := of_t H h28
      refine WC.seq ?_
      refine WC.region ?_
      refine WL.run 1 tt_ok sg0 rfl rfl trivial ?_
      refine WL.nil ?_
      refine QT.n ?_
      refine WC.ret ?_
      refine QT.r ?_
      cases H
      exact Ends.auto rfl rfl rfl trivial
    replace H := of_f H h28
    refine WC.skip ?_
    refine QT.n ?_
    refine WC.seq ?_
    refine WC.region ?_
    refine WL.run 1 tt_ok sg0 rfl rfl trivial ?_
    refine WL.nil ?_
    refine QT.n ?_
    refine WC.ret ?_
    cases H
    exact Ends.auto rfl rfl rfl trivial
  replace H := of_f H h15
  refine WC.region ?_
  refine WL.run 2 tt_ok sg0 rfl rfl trivial ?_
  refine WL.nil ?_
  refine QT.n ?_
  refine WC.cond rfl (fun h29 => ?_) (fun h29 => ?_)
  · replace H := of_t H h29
    refine WC.skip ?_
    refine QB.n (QT.n ?_)
    refine WC.seq ?_
    refine WC.seq ?_
    refine WC.region ?_
    refine WL.run 4 tt_ok sg0 rfl rfl trivial ?_
    obtain ⟨x30, hx30, H⟩ := of_bind H
    refine WL.call [] (decl_Fits_0 _ _ _ hx30) decl_Fits_f rfl rfl trivial rfl rfl rfl ?_
    refine WL.run 2 tt_ok sg0 rfl rfl trivial ?_
    refine WL.sect 3 6 false tt_ok sg0 rfl rfl (fun _ => trivial) ?_
    obtain ⟨g31, H⟩ := of_needS H
    refine WL.sect 7 9 true tt_ok sg0 rfl rfl (fun hb => ⟨⟨(nIn_ok (g31 hb)).1, (nIn_ok (g31 hb)).2, rfl⟩, trivial⟩) ?_
    refine WL.sect 1 6 false tt_ok sg0 rfl rfl (fun hb => ⟨by first | exact id | exact ⟨hb, fun h => by rw [hb, h]; rfl⟩ | exact ⟨hb, id⟩ | exact fun h => by rw [hb, h]; rfl | exact fun h => by rw [h]; rfl | simp_all, trivial⟩) ?_
    refine WL.run 1 tt_ok sg0 rfl rfl ⟨by first | exact id | exact fun h => by rw [h]; rfl | simp_all, trivial⟩ ?_
    refine WL.nil ?_
    refine QT.n ?_
    refine WC.cond rfl (fun h32 => ?_) (fun h32 => ?_)
    · replace H := of_t H h32
      refine WC.seq ?_
      refine WC.region ?_
      refine WL.run 1 tt_ok sg0 rfl rfl trivial ?_
      refine WL.nil ?_
      refine QT.n ?_
      refine WC.ret ?_
      refine QT.r ?_
      cases H
      exact Ends.auto rfl rfl rfl trivial
    replace H := of_f H h32
    refine WC.skip ?_
    refine QT.n ?_
    refine WC.seq ?_
    refine WC.seq ?_
    refine WC.region ?_
    refine WL.run 2 tt_ok sg0 rfl rfl trivial ?_
    refine WL.nil ?_
    refine QT.n ?_
    refine WC.block ?_
    refine WC.seq ?_
    refine WC.region ?_
    refine WL.run 2 tt_ok sg0 rfl rfl trivial ?_
    refine WL.nil ?_
    refine QT.n ?_
    refine WC.cond rfl (fun h33 => ?_) (fun h33 => ?_)
    · replace H := of_t H h33
      refine WC.region ?_
      obtain ⟨g34, H⟩ := of_need H
      refine WL.run 7 tt_ok sg0 rfl rfl ⟨⟨(nIn_ok g34).1, (nIn_ok g34).2, rfl⟩, trivial⟩ ?_
      refine WL.nil ?_
      refine QB.n (QT.n ?_)
      refine WC.seq ?_
      refine WC.seq ?_
      refine WC.region ?_
      refine WL.run 2 tt_ok sg0 rfl rfl trivial ?_
      obtain ⟨x35, hx35, H⟩ := of_bind H
      refine WL.call [] (need_counted_0 _ hx35) need_counted_f rfl rfl trivial rfl rfl rfl ?_
      refine WL.run 1 tt_ok sg0 rfl rfl trivial ?_
      refine WL.sect 3 3 true tt_ok sg0 rfl rfl (fun _ => trivial) ?_
      refine WL.run 2 tt_ok sg0 rfl rfl ⟨by first | exact id | exact fun h => by rw [h]; rfl | simp_all, trivial⟩ ?_
      refine WL.sect 3 8 false tt_ok sg0 rfl rfl (fun _ => trivial) ?_
      refine WL.run 2 tt_ok sg0 rfl rfl ⟨by first | exact id | exact fun h => by rw [h]; rfl | simp_all, trivial⟩ ?_
      refine WL.sect 4 13 false tt_ok sg0 rfl rfl (fun _ => trivial) ?_
      refine WL.run 1 tt_ok sg0 rfl rfl ⟨by first | exact id | exact fun h => by rw [h]; rfl | simp_all, trivial⟩ ?_
      refine WL.nil ?_
      refine QT.n ?_
      refine WC.cond rfl (fun h36 => ?_) (fun h36 => ?_)
      · replace H := of_t H h36
        refine WC.seq ?_
        refine WC.region ?_
        refine WL.run 1 tt_ok sg0 rfl rfl trivial ?_
        refine WL.nil ?_
        refine QT.n ?_
        refine WC.ret ?_
        refine QT.r ?_
        cases H
        exact Ends.auto rfl rfl rfl trivial
      replace H := of_f H h36
      refine WC.skip ?_
      refine QT.n ?_
      refine WC.seq ?_
      refine WC.region ?_
      refine WL.run 1 tt_ok sg0 rfl rfl trivial ?_
      refine WL.nil ?_
      refine QT.n ?_
      refine WC.ret ?_
      cases H
      exact Ends.auto rfl rfl rfl trivial
    replace H := of_f H h33
    refine WC.seq ?_
    refine WC.region ?_
    refine WL.run 2 tt_ok sg0 rfl rfl trivial ?_
    refine WL.nil ?_
    refine QT.n ?_
    refine WC.cond rfl (fun h37 => ?_) (fun h37 => ?_)
    · replace H := of_t H h37
      refine WC.region ?_
      obtain ⟨g38, H⟩ := of_need H
      refine WL.run 7 tt_ok sg0 rfl rfl ⟨⟨(nIn_ok g38).1, (nIn_ok g38).2, rfl⟩, trivial⟩ ?_
      refine WL.nil ?_
      refine QB.n (QT.n ?_)
      refine WC.seq ?_
      refine WC.seq ?_
      refine WC.region ?_
      refine WL.run 2 tt_ok sg0 rfl rfl trivial ?_
      obtain ⟨x39, hx39, H⟩ := of_bind H
      refine WL.call [] (need_counted_0 _ hx39) need_counted_f rfl rfl trivial rfl rfl rfl ?_
      refine WL.run 1 tt_ok sg0 rfl rfl trivial ?_
      refine WL.sect 3 3 true tt_ok sg0 rfl rfl (fun _ => trivial) ?_
      refine WL.run 2 tt_ok sg0 rfl rfl ⟨by first | exact id | exact fun h => by rw [h]; rfl | simp_all, trivial⟩ ?_
      refine WL.sect 3 8 false tt_ok sg0 rfl rfl (fun _ => trivial) ?_
      refine WL.run 2 tt_ok sg0 rfl rfl ⟨by first | exact id | exact fun h => by rw [h]; rfl | simp_all, trivial⟩ ?_
      refine WL.sect 4 13 false tt_ok sg0 rfl rfl (fun _ => trivial) ?_
      refine WL.run 1 tt_ok sg0 rfl rfl ⟨by first | exact id | exact fun h => by rw [h]; rfl | simp_all, trivial⟩ ?_
      refine WL.nil ?_
      refine QT.n ?_
      refine WC.cond rfl (fun h40 => ?_) (fun h40 => ?_)
      · replace H := of_t H h40
        refine WC.seq ?_
        refine WC.region ?_
        refine WL.run 1 tt_ok sg0 rfl rfl trivial ?_
        refine WL.nil ?_
        refine QT.n ?_
        refine WC.ret ?_
        refine QT.r ?_
        cases H
        exact Ends.auto rfl rfl rfl trivial
      replace H := of_f H h40
      refine WC.skip ?_
      refine QT.n ?_
      refine WC.seq ?_
      refine WC.region ?_
      refine WL.run 1 tt_ok sg0 rfl rfl trivial ?_
      refine WL.nil ?_
      refine QT.n ?_
      refine WC.ret ?_
      cases H
      exact Ends.auto rfl rfl rfl trivial
    replace H := of_f H h37
    refine WC.skip ?_
    refine QB.n (QT.n ?_)
    refine WC.seq ?_
    refine WC.seq ?_
    refine WC.region ?_
    refine WL.run 2 tt_ok sg0 rfl rfl trivial ?_
    obtain ⟨x41, hx41, H⟩ := of_bind H
    refine WL.call [] (need_counted_0 _ hx41) need_counted_f rfl rfl trivial rfl rfl rfl ?_
    refine WL.run 1 tt_ok sg0 rfl rfl trivial ?_
    refine WL.sect 3 3 true tt_ok sg0 rfl rfl (fun _ => trivial) ?_
    refine WL.run 2 tt_ok sg0 rfl rfl ⟨by first | exact id | exact fun h => by rw [h]; rfl | simp_all, trivial⟩ ?_
    refine WL.sect 3 8 false tt_ok sg0 rfl rfl (fun _ => trivial) ?_
    refine WL.run 2 tt_ok sg0 rfl rfl ⟨by first | exact id | exact fun h => by rw [h]; rfl | simp_all, trivial⟩ ?_
    refine WL.sect 4 13 false tt_ok sg0 rfl rfl (fun _ => trivial) ?_
    refine WL.run 1 tt_ok sg0 rfl rfl ⟨by first | exact id | exact fun h => by rw [h]; rfl | simp_all, trivial⟩ ?_
    refine WL.nil ?_
    refine QT.n ?_
    refine WC.cond rfl (fun h42 => ?_) (fun h42 => ?_)
    · replace H := of_t H h42
      refine WC.seq ?_
      refine WC.region ?_
      refine WL.run 1 tt_ok sg0 rfl rfl trivial ?_
      refine WL.nil ?_
      refine QT.n ?_
      refine WC.ret ?_
      refine QT.r ?_
      cases H
      exact Ends.auto rfl rfl rfl trivial
    replace H := of_f H h42
    refine WC.skip ?_
    refine QT.n ?_
    refine WC.seq ?_
    refine WC.region ?_
    refine WL.run 1 tt_ok sg0 rfl rfl trivial ?_
    refine WL.nil ?_
    refine QT.n ?_
    refine WC.ret ?_
    cases H
    exact Ends.auto rfl rfl rfl trivial
  replace H := of_f H h29
  refine WC.seq ?_
  refine WC.region ?_
  refine WL.run 2 tt_ok sg0 rfl rfl trivial ?_
  refine WL.nil ?_
  refine QT.n ?_
  refine WC.cond rfl (fun h43 => ?_) (fun h43 => ?_)
  · replace H := of_t H h43
    refine WC.region ?_
    refine WL.run 1 tt_ok sg0 rfl rfl trivial ?_
    refine WL.nil ?_
    refine QB.n (QT.n ?_)
    refine WC.seq ?_
    refine WC.seq ?_
    refine WC.region ?_
    refine WL.run 4 tt_ok sg0 rfl rfl trivial ?_
    obtain ⟨x44, hx44, H⟩ := of_bind H
    refine WL.call [] (decl_Fits_0 _ _ _ hx44) decl_Fits_f rfl rfl trivial rfl rfl rfl ?_
    refine WL.run 2 tt_ok sg0 rfl rfl trivial ?_
    refine WL.sect 3 6 false tt_ok sg0 rfl rfl (fun _ => trivial) ?_
    obtain ⟨g45, H⟩ := of_needS H
    refine WL.sect 7 9 true tt_ok sg0 rfl rfl (fun hb => ⟨⟨(nIn_ok (g45 hb)).1, (nIn_ok (g45 hb)).2, rfl⟩, trivial⟩) ?_
    refine WL.sect 1 6 false tt_ok sg0 rfl rfl (fun hb => ⟨by first | exact id | exact ⟨hb, fun h => by rw [hb, h]; rfl⟩ | exact ⟨hb, id⟩ | exact fun h => by rw [hb, h]; rfl | exact fun h => by rw [h]; rfl | simp_all, trivial⟩) ?_
    refine WL.run 1 tt_ok sg0 rfl rfl ⟨by first | exact id | exact fun h => by rw [h]; rfl | simp_all, trivial⟩ ?_
    refine WL.nil ?_
    refine QT.n ?_
    refine WC.cond rfl (fun h46 => ?_) (fun h46 => ?_)
    · replace H := of_t H h46
      refine WC.seq ?_
      refine WC.region ?_
      refine WL.run 1 tt_ok sg0 rfl rfl trivial ?_
      refine WL.nil ?_
      refine QT.n ?_
      refine WC.ret ?_
      refine QT.r ?_
      cases H
      exact Ends.auto rfl rfl rfl trivial
    replace H := of_f H h46
    refine WC.skip ?_
    refine QT.n ?_
    refine WC.seq ?_
    refine WC.seq ?_
    refine WC.region ?_
    refine WL.run 2 tt_ok sg0 rfl rfl trivial ?_
    refine WL.nil ?_
    refine QT.n ?_
    refine WC.block ?_
    refine WC.seq ?_
    refine WC.region ?_
    refine WL.run 2 tt_ok sg0 rfl rfl trivial ?_
    refine WL.nil ?_
    refine QT.n ?_
    refine WC.cond rfl (fun h47 => ?_) (fun h47 => ?_)
    · replace H := of_t H h47
      refine WC.region ?_
      obtain ⟨g48, H⟩ := of_need H
      refine WL.run 7 tt_ok sg0 rfl rfl ⟨⟨(nIn_ok g48).1, (nIn_ok g48).2, rfl⟩, trivial⟩ ?_
      refine WL.nil ?_
      refine QB.n (QT.n ?_)
      refine WC.seq ?_
      refine WC.seq ?_
      refine WC.region ?_
      refine WL.run 2 tt_ok sg0 rfl rfl trivial ?_
      obtain ⟨x49, hx49, H⟩ := of_bind H
      refine WL.call [] (need_counted_0 _ hx49) need_counted_f rfl rfl trivial rfl rfl rfl ?_
      refine WL.run 1 tt_ok sg0 rfl rfl trivial ?_
      refine WL.sect 3 3 true tt_ok sg0 rfl rfl (fun _ => trivial) ?_
      refine WL.run 2 tt_ok sg0 rfl rfl ⟨by first | exact id | exact fun h => by rw [h]; rfl | simp_all, trivial⟩ ?_
      refine WL.sect 3 8 false tt_ok sg0 rfl rfl (fun _ => trivial) ?_
      refine WL.run 2 tt_ok sg0 rfl rfl ⟨by first | exact id | exact fun h => by rw [h]; rfl | simp_all, trivial⟩ ?_
      refine WL.sect 4 13 false tt_ok sg0 rfl rfl (fun _ => trivial) ?_
      refine WL.run 1 tt_ok sg0 rfl rfl ⟨by first | exact id | exact fun h => by rw [h]; rfl | simp_all, trivial⟩ ?_
      refine WL.nil ?_
      refine QT.n ?_
      refine WC.cond rfl (fun h50 => ?_) (fun h50 => ?_)
      · replace H := of_t H h50
        refine WC.seq ?_
        refine WC.region ?_
        refine WL.run 1 tt_ok sg0 rfl rfl trivial ?_
        refine WL.nil ?_
        refine QT.n ?_
        refine WC.ret ?_
        refine QT.r ?_
        cases H
        exact Ends.auto rfl rfl rfl trivial
      replace H := of_f H h50
      refine WC.skip ?_
      refine QT.n ?_
      refine WC.seq ?_
      refine WC.region ?_
      refine WL.run 1 tt_ok sg0 rfl rfl trivial ?_
      refine WL.nil ?_
      refine QT.n ?_
      refine WC.ret ?_
      cases H
      exact Ends.auto rfl rfl rfl trivial
    replace H := of_f H h47
    refine WC.seq ?_
    refine WC.region ?_
    refine WL.run 2 tt_ok sg0 rfl rfl trivial ?_
    refine WL.nil ?_
    refine QT.n ?_
    refine WC.cond rfl (fun h51 => ?_) (fun h51 => ?_)
    · replace H := of_t H h51
      refine WC.region ?_
      obtain ⟨g52, H⟩ := of_need H
      refine WL.run 7 tt_ok sg0 rfl rfl ⟨⟨(nIn_ok g52).1, (nIn_ok g52).2, rfl⟩, trivial⟩ ?_
      refine WL.nil ?_
      refine QB.n (QT.n ?_)
      refine WC.seq ?_
      refine WC.seq ?_
      refine WC.region ?_
      refine WL.run 2 tt_ok sg0 rfl rfl trivial ?_
      obtain ⟨x53, hx53, H⟩ := of_bind H
      refine WL.call [] (need_counted_0 _ hx53) need_counted_f rfl rfl trivial rfl rfl rfl ?_
      refine WL.run 1 tt_ok sg0 rfl rfl trivial ?_
      refine WL.sect 3 3 true tt_ok sg0 rfl rfl (fun _ => trivial) ?_
      refine WL.run 2 tt_ok sg0 rfl rfl ⟨by first | exact id | exact fun h => by rw [h]; rfl | simp_all, trivial⟩ ?_
      refine WL.sect 3 8 false tt_ok sg0 rfl rfl (fun _ => trivial) ?_
      refine WL.run 2 tt_ok sg0 rfl rfl ⟨by first | exact id | exact fun h => by rw [h]; rfl | simp_all, trivial⟩ ?_
      refine WL.sect 4 13 false tt_ok sg0 rfl rfl (fun _ => trivial) ?_
      refine WL.run 1 tt_ok sg0 rfl rfl ⟨by first | exact id | exact fun h => by rw [h]; rfl | simp_all, trivial⟩ ?_
      refine WL.nil ?_
      refine QT.n ?_
      refine WC.cond rfl (fun h54 => ?_) (fun h54 => ?_)
      · replace H := of_t H h54
        refine WC.seq ?_
        refine WC.region ?_
        refine WL.run 1 tt_ok sg0 rfl rfl trivial ?_
        refine WL.nil ?_
        refine QT.n ?_
        refine WC.ret ?_
        refine QT.r ?_
        cases H
        exact Ends.auto rfl rfl rfl trivial
      replace H := of_f H h54
      refine WC.skip ?_
      refine QT.n ?_
      refine WC.seq ?_
      refine WC.region ?_
      refine WL.run 1 tt_ok sg0 rfl rfl trivial ?_
      refine WL.nil ?_
      refine QT.n ?_
      refine WC.ret ?_
      cases H
      exact Ends.auto rfl rfl rfl trivial
    replace H := of_f H h51
    refine WC.skip ?_
    refine QB.n (QT.n ?_)
    refine WC.seq ?_
    refine WC.seq ?_
    refine WC.region ?_
    refine WL.run 2 tt_ok sg0 rfl rfl trivial ?_
    obtain ⟨x55, hx55, H⟩ := of_bind H
    refine WL.call [] (need_counted_0 _ hx55) need_counted_f rfl rfl trivial rfl rfl rfl ?_
    refine WL.run 1 tt_ok sg0 rfl rfl trivial ?_
    refine WL.sect 3 3 true tt_ok sg0 rfl rfl (fun _ => trivial) ?_
    refine WL.run 2 tt_ok sg0 rfl rfl ⟨by first | exact id | exact fun h => by rw [h]; rfl | simp_all, trivial⟩ ?_
    refine WL.sect 3 8 false tt_ok sg0 rfl rfl (fun _ => trivial) ?_
    refine WL.run 2 tt_ok sg0 rfl rfl ⟨by first | exact id | exact fun h => by rw [h]; rfl | simp_all, trivial⟩ ?_
    refine WL.sect 4 13 false tt_ok sg0 rfl rfl (fun _ => trivial) ?_
    refine WL.run 1 tt_ok sg0 rfl rfl ⟨by first | exact id | exact fun h => by rw [h]; rfl | simp_all, trivial⟩ ?_
    refine WL.nil ?_
    refine QT.n ?_
    refine WC.cond rfl (fun h56 => ?_) (fun h56 => ?_)
    · replace H := of_t H h56
      refine WC.seq ?_
      refine WC.region ?_
      refine WL.run 1 tt_ok sg0 rfl rfl trivial ?_
      refine WL.nil ?_
      refine QT.n ?_
      refine WC.ret ?_
      refine QT.r ?_
      cases H
      exact Ends.auto rfl rfl rfl trivial
    replace H := of_f H h56
    refine WC.skip ?_
    refine QT.n ?_
    refine WC.seq ?_
    refine WC.region ?_
    refine WL.run 1 tt_ok sg0 rfl rfl trivial ?_
    refine WL.nil ?_
    refine QT.n ?_
    refine WC.ret ?_
    cases H
    exact Ends.auto rfl rfl rfl trivial
  replace H := of_f H h43
  refine WC.seq ?_
  refine WC.region ?_
  refine WL.run 2 tt_ok sg0 rfl rfl trivial ?_
  refine WL.nil ?_
  refine QT.n ?_
  refine WC.cond rfl (fun h57 => ?_) (fun h57 => ?_)
  · replace H := of_t H h57
    refine WC.region ?_
    refine WL.run 1 tt_ok sg0 rfl rfl trivial ?_
    refine WL.nil ?_
    refine QB.n (QT.n ?_)
    refine WC.seq ?_
    refine WC.seq ?_
    refine WC.region ?_
    refine WL.run 4 tt_ok sg0 rfl rfl trivial ?_
    obtain ⟨x58, hx58, H⟩ := of_bind H
    refine WL.call [] (decl_Fits_0 _ _ _ hx58) decl_Fits_f rfl rfl trivial rfl rfl rfl ?_
    refine WL.run 2 tt_ok sg0 rfl rfl trivial ?_
    refine WL.sect 3 6 false tt_ok sg0 rfl rfl (fun _ => trivial) ?_
    obtain ⟨g59, H⟩ := of_needS H
    refine WL.sect 7 9 true tt_ok sg0 rfl rfl (fun hb => ⟨⟨(nIn_ok (g59 hb)).1, (nIn_ok (g59 hb)).2, rfl⟩, trivial⟩) ?_
    refine WL.sect 1 6 false tt_ok sg0 rfl rfl (fun hb => ⟨by first | exact id | exact ⟨hb, fun h => by rw [hb, h]; rfl⟩ | exact ⟨hb, id⟩ | exact fun h => by rw [hb, h]; rfl | exact fun h => by rw [h]; rfl | simp_all, trivial⟩) ?_
    refine WL.run 1 tt_ok sg0 rfl rfl ⟨by first | exact id | exact fun h => by rw [h]; rfl | simp_all, trivial⟩ ?_
    refine WL.nil ?_
    refine QT.n ?_
    refine WC.cond rfl (fun h60 => ?_) (fun h60 => ?_)
    · replace H := of_t H h60
      refine WC.seq ?_
      refine WC.region ?_
      refine WL.run 1 tt_ok sg0 rfl rfl trivial ?_
      refine WL.nil ?_
      refine QT.n ?_
      refine WC.ret ?_
      refine QT.r ?_
      cases H
      exact Ends.auto rfl rfl rfl trivial
    replace H := of_f H h60
    refine WC.skip ?_
    refine QT.n ?_
    refine WC.seq ?_
    refine WC.seq ?_
    refine WC.region ?_
    refine WL.run 2 tt_ok sg0 rfl rfl trivial ?_
    refine WL.nil ?_
    refine QT.n ?_
    refine WC.block ?_
    refine WC.seq ?_
    refine WC.region ?_
    refine WL.run 2 tt_ok sg0 rfl rfl trivial ?_
    refine WL.nil ?_
    refine QT.n ?_
    refine WC.cond rfl (fun h61 => ?_) (fun h61 => ?_)
    · replace H := of_t H h61
      refine WC.region ?_
      obtain ⟨g62, H⟩ := of_need H
      refine WL.run 7 tt_ok sg0 rfl rfl ⟨⟨(nIn_ok g62).1, (nIn_ok g62).2, rfl⟩, trivial⟩ ?_
      refine WL.nil ?_
      refine QB.n (QT.n ?_)
      refine WC.seq ?_
      refine WC.seq ?_
      refine WC.region ?_
      refine WL.run 2 tt_ok sg0 rfl rfl trivial ?_
      obtain ⟨x63, hx63, H⟩ := of_bind H
      refine WL.call [] (need_counted_0 _ hx63) need_counted_f rfl rfl trivial rfl rfl rfl ?_
      refine WL.run 1 tt_ok sg0 rfl rfl trivial ?_
      refine WL.sect 3 3 true tt_ok sg0 rfl rfl (fun _ => trivial) ?_
      refine WL.run 2 tt_ok sg0 rfl rfl ⟨by first | exact id | exact fun h => by rw [h]; rfl | simp_all, trivial⟩ ?_
      refine WL.sect 3 8 false tt_ok sg0 rfl rfl (fun _ => trivial) ?_
      refine WL.run 2 tt_ok sg0 rfl rfl ⟨by first | exact id | exact fun h => by rw [h]; rfl | simp_all, trivial⟩ ?_
      refine WL.sect 4 13 false tt_ok sg0 rfl rfl (fun _ => trivial) ?_
      refine WL.run 1 tt_ok sg0 rfl rfl ⟨by first | exact id | exact fun h => by rw [h]; rfl | simp_all, trivial⟩ ?_
      refine WL.nil ?_
      refine QT.n ?_
      refine WC.cond rfl (fun h64 => ?_) (fun h64 => ?_)
      · replace H := of_t H h64
        refine WC.seq ?_
        refine WC.region ?_
        refine WL.run 1 tt_ok sg0 rfl rfl trivial ?_
        refine WL.nil ?_
        refine QT.n ?_
        refine WC.ret ?_
        refine QT.r ?_
        cases H
        exact Ends.auto rfl rfl rfl trivial
      replace H := of_f H h64
      refine WC.skip ?_
      refine QT.n ?_
      refine WC.seq ?_
      refine WC.region ?_
      refine WL.run 1 tt_ok sg0 rfl rfl trivial ?_
      refine WL.nil ?_
      refine QT.n ?_
      refine WC.ret ?_
      cases H
      exact Ends.auto rfl rfl rfl trivial
    replace H := of_f H h61
    refine WC.seq ?_
    refine WC.region ?_
    refine WL.run 2 tt_ok sg0 rfl rfl trivial ?_
    refine WL.nil ?_
    refine QT.n ?_
    refine WC.cond rfl (fun h65 => ?_) (fun h65 => ?_)
    · replace H := of_t H h65
      refine WC.region ?_
      obtain ⟨g66, H⟩ := of_need H
      refine WL.run 7 tt_ok sg0 rfl rfl ⟨⟨(nIn_ok g66).1, (nIn_ok g66).2, rfl⟩, trivial⟩ ?_
      refine WL.nil ?_
      refine QB.n (QT.n ?_)
      refine WC.seq ?_
      refine WC.seq ?_
      refine WC.region ?_
      refine WL.run 2 tt_ok sg0 rfl rfl trivial ?_
      obtain ⟨x67, hx67, H⟩ := of_bind H
      refine WL.call [] (need_counted_0 _ hx67) need_counted_f rfl rfl trivial rfl rfl rfl ?_
      refine WL.run 1 tt_ok sg0 rfl rfl trivial ?_
      refine WL.sect 3 3 true tt_ok sg0 rfl rfl (fun _ => trivial) ?_
      refine WL.run 2 tt_ok sg0 rfl rfl ⟨by first | exact id | exact fun h => by rw [h]; rfl | simp_all, trivial⟩ ?_
      refine WL.sect 3 8 false tt_ok sg0 rfl rfl (fun _ => trivial) ?_
      refine WL.run 2 tt_ok sg0 rfl rfl ⟨by first | exact id | exact fun h => by rw [h]; rfl | simp_all, trivial⟩ ?_
      refine WL.sect 4 13 false tt_ok sg0 rfl rfl (fun _ => trivial) ?_
      refine WL.run 1 tt_ok sg0 rfl rfl ⟨by first | exact id | exact fun h => by rw [h]; rfl | simp_all, trivial⟩ ?_
      refine WL.nil ?_
      refine QT.n ?_
      refine WC.cond rfl (fun h68 => ?_) (fun h68 => ?_)
      · replace H := of_t H h68
        refine WC.seq ?_
        refine WC.region ?_
        refine WL.run 1 tt_ok sg0 rfl rfl trivial ?_
        refine WL.nil ?_
        refine QT.n ?_
        refine WC.ret ?_
        refine QT.r ?_
        cases H
        exact Ends.auto rfl rfl rfl trivial
      replace H := of_f H h68
      refine WC.skip ?_
      refine QT.n ?_
      refine WC.seq ?_
      refine WC.region ?_
      refine WL.run 1 tt_ok sg0 rfl rfl trivial ?_
      refine WL.nil ?_
      refine QT.n ?_
      refine WC.ret ?_
      cases H
      exact Ends.auto rfl rfl rfl trivial
    replace H := of_f H h65
    refine WC.skip ?_
    refine QB.n (QT.n ?_)
    refine WC.seq ?_
    refine WC.seq ?_
    refine WC.region ?_
    refine WL.run 2 tt_ok sg0 rfl rfl trivial ?_
    obtain ⟨x69, hx69, H⟩ := of_bind H
    refine WL.call [] (need_counted_0 _ hx69) need_counted_f rfl rfl trivial rfl rfl rfl ?_
    refine WL.run 1 tt_ok sg0 rfl rfl trivial ?_
    refine WL.sect 3 3 true tt_ok sg0 rfl rfl (fun _ => trivial) ?_
    refine WL.run 2 tt_ok sg0 rfl rfl ⟨by first | exact id | exact fun h => by rw [h]; rfl | simp_all, trivial⟩ ?_
    refine WL.sect 3 8 false tt_ok sg0 rfl rfl (fun _ => trivial) ?_
    refine WL.run 2 tt_ok sg0 rfl rfl ⟨by first | exact id | exact fun h => by rw [h]; rfl | simp_all, trivial⟩ ?_
    refine WL.sect 4 13 false tt_ok sg0 rfl rfl (fun _ => trivial) ?_
    refine WL.run 1 tt_ok sg0 rfl rfl ⟨by first | exact id | exact fun h => by rw [h]; rfl | simp_all, trivial⟩ ?_
    refine WL.nil ?_
    refine QT.n ?_
    refine WC.cond rfl (fun h70 => ?_) (fun h70 => ?_)
    · replace H := of_t H h70
      refine WC.seq ?_
      refine WC.region ?_
      refine WL.run 1 tt_ok sg0 rfl rfl trivial ?_
      refine WL.nil ?_
      refine QT.n ?_
      refine WC.ret ?_
      refine QT.r ?_
      cases H
      exact Ends.auto rfl rfl rfl trivial
    replace H := of_f H h70
    refine WC.skip ?_
    refine QT.n ?_
    refine WC.seq ?_
    refine WC.region ?_
    refine WL.run 1 tt_ok sg0 rfl rfl trivial ?_
    refine WL.nil ?_
    refine QT.n ?_
    refine WC.ret ?_
    cases H
    exact Ends.auto rfl rfl rfl trivial
  replace H := of_f H h57
  refine WC.seq ?_
  refine WC.region ?_
  refine WL.run 1 tt_ok sg0 rfl rfl trivial ?_
  refine WL.nil ?_
  refine QT.n ?_
  refine WC.ret ?_
  refine QB.r (QT.r ?_)
  cases H
  exact Ends.auto rfl rfl rfl trivial
theorem need_one_f : hasFunc Tryd.prog 44 Tryd.f44 := ⟨Tryd.func44, rfl, by kernel_rfl⟩

/-! ### logjam/bits.one -/
theorem bits_one_0 (a0 : Int) {r : Int} (H : bits_one a0 = some r) : LJ.Spec Tryd.prog 54 [.d (.int .i64 a0)] [] (.d (.int .u64 r)) [] := by
  refine LJ.Spec.code Tryd.func54 rfl 11 rfl rfl [] rfl fun w0 F0 S0 B0 => ?_
  unfold bits_one at H
  refine WC.seq ?_
  refine WC.region ?_
  refine WL.run 1 tt_ok sg0 rfl rfl trivial ?_
  refine WL.nil ?_
  refine QT.n ?_
  refine WC.seq ?_
  refine WC.seq ?_
  refine WC.region ?_
  refine WL.run 3 tt_ok sg0 rfl rfl trivial ?_
  refine WL.sect 2 2 false tt_ok sg0 rfl rfl (fun _ => trivial) ?_
  refine WL.run 1 tt_ok sg0 rfl rfl ⟨by first | exact id | exact fun h => by rw [h]; rfl | simp_all, trivial⟩ ?_
  refine WL.nil ?_
  refine QT.n ?_
  refine WC.cond rfl (fun h1 => ?_) (fun h1 => ?_)
  · replace H := of_t H h1
    refine WC.seq ?_
    refine WC.region ?_
    refine WL.run 1 tt_ok sg0 rfl rfl trivial ?_
    refine WL.nil ?_
    refine QT.n ?_
    refine WC.ret ?_
    refine QT.r ?_
    cases H
    exact Ends.auto rfl rfl rfl trivial
  replace H := of_f H h1
  refine WC.skip ?_
  refine QT.n ?_
  refine WC.seq ?_
  refine WC.region ?_
  obtain ⟨g2, H⟩ := of_need H
  refine WL.run 3 tt_ok sg0 rfl rfl ⟨(nNn_ok g2), trivial⟩ ?_
  refine WL.nil ?_
  refine QT.n ?_
  refine WC.ret ?_
  cases H
  exact Ends.auto rfl rfl rfl trivial
theorem bits_one_f : hasFunc Tryd.prog 54 Tryd.f54 := ⟨Tryd.func54, rfl, by kernel_rfl⟩

/-! ### (logjam/bits.Set).With -/
theorem bits_Set_With_0 (a0 : Int) (a1 : Int) {r : Int} (H : bits_Set_With a0 a1 = some r) : LJ.Spec Tryd.prog 41 [.d (.int .u64 a0), .d (.int .i64 a1)] [] (.d (.int .u64 r)) [] := by
  refine LJ.Spec.code Tryd.func41 rfl 9 rfl rfl [] rfl fun w0 F0 S0 B0 => ?_
  unfold bits_Set_With at H
  refine WC.seq ?_
  refine WC.region ?_
  refine WL.run 1 tt_ok sg0 rfl rfl trivial ?_
  refine WL.nil ?_
  refine QT.n ?_
  refine WC.seq ?_
  refine WC.region ?_
  refine WL.run 2 tt_ok sg0 rfl rfl trivial ?_
  obtain ⟨x1, hx1, H⟩ := of_bind H
  refine WL.call [] (bits_one_0 _ hx1) bits_one_f rfl rfl trivial rfl rfl rfl ?_
  refine WL.run 2 tt_ok sg0 rfl rfl trivial ?_
  refine WL.nil ?_
  refine QT.n ?_
  refine WC.ret ?_
  cases H
  exact Ends.auto rfl rfl rfl trivial
theorem bits_Set_With_f : hasFunc Tryd.prog 41 Tryd.f41 := ⟨Tryd.func41, rfl, by kernel_rfl⟩

/-! ### math/bits.OnesCount64 -/
theorem bits_OnesCount64_0 (a0 : Int) {r : Int} (H : bits_OnesCount64 a0 = some r) : LJ.Spec Tryd.prog 60 [.d (.int .u64 a0)] [] (.d (.int .i64 r)) [] := by
  refine LJ.Spec.code Tryd.func60 rfl 35 rfl rfl [] rfl fun w0 F0 S0 B0 => ?_
  unfold bits_OnesCount64 at H
  refine WC.seq ?_
  refine WC.region ?_
  refine WL.run 1 tt_ok sg0 rfl rfl trivial ?_
  refine WL.nil ?_
  refine QT.n ?_
  refine WC.seq ?_
  refine WC.region ?_
  refine WL.run 7 tt_ok sg0 rfl rfl trivial ?_
  refine WL.nil ?_
  refine QT.n ?_
  refine WC.seq ?_
  refine WC.region ?_
  refine WL.run 7 tt_ok sg0 rfl rfl trivial ?_
  refine WL.nil ?_
  refine QT.n ?_
  refine WC.seq ?_
  refine WC.region ?_
  refine WL.run 6 tt_ok sg0 rfl rfl trivial ?_
  refine WL.nil ?_
  refine QT.n ?_
  refine WC.seq ?_
  refine WC.region ?_
  refine WL.run 5 tt_ok sg0 rfl rfl trivial ?_
  refine WL.nil ?_
  refine QT.n ?_
  refine WC.seq ?_
  refine WC.region ?_
  refine WL.run 5 tt_ok sg0 rfl rfl trivial ?_
  refine WL.nil ?_
  refine QT.n ?_
  refine WC.seq ?_
  refine WC.region ?_
  refine WL.run 5 tt_ok sg0 rfl rfl trivial ?_
  refine WL.nil ?_
  refine QT.n ?_
  refine WC.seq ?_
  refine WC.region ?_
  refine WL.run 4 tt_ok sg0 rfl rfl trivial ?_
  refine WL.nil ?_
  refine QT.n ?_
  refine WC.ret ?_
  cases H
  exact Ends.auto rfl rfl rfl trivial
theorem bits_OnesCount64_f : hasFunc Tryd.prog 60 Tryd.f60 := ⟨Tryd.func60, rfl, by kernel_rfl⟩

/-! ### (logjam/bits.Set).Count -/
theorem bits_Set_Count_0 (a0 : Int) {r : Int} (H : bits_Set_Count a0 = some r) : LJ.Spec Tryd.prog 45 [.d (.int .u64 a0)] [] (.d (.int .i64 r)) [] := by
  refine LJ.Spec.code Tryd.func45 rfl 5 rfl rfl [] rfl fun w0 F0 S0 B0 => ?_
  unfold bits_Set_Count at H
  refine WC.seq ?_
  refine WC.region ?_
  refine WL.run 1 tt_ok sg0 rfl rfl trivial ?_
  refine WL.nil ?_
  refine QT.n ?_
  refine WC.seq ?_
  refine WC.region ?_
  refine WL.run 1 tt_ok sg0 rfl rfl trivial ?_
  obtain ⟨x1, hx1, H⟩ := of_bind H
  refine WL.call [] (bits_OnesCount64_0 _ hx1) bits_OnesCount64_f rfl rfl trivial rfl rfl rfl ?_
  refine WL.run 1 tt_ok sg0 rfl rfl trivial ?_
  refine WL.nil ?_
  refine QT.n ?_
  refine WC.ret ?_
  cases H
  exact Ends.auto rfl rfl rfl trivial
theorem bits_Set_Count_f : hasFunc Tryd.prog 45 Tryd.f45 := ⟨Tryd.func45, rfl, by kernel_rfl⟩

/-! ### logjam/need.way -/
theorem need_way_0 (a0 : List T_api_Decl) (a1 : List T_api_Need) {r : Int} (H : need_way a0 a1 = some r) : LJ.Spec Tryd.prog 29 [.d (slT enc_api_Decl a0), .d (slT enc_api_Need a1)] [] (.d (.int .i64 r)) [] := by
  refine LJ.Spec.code Tryd.func29 rfl 52 rfl rfl [] rfl fun w0 F0 S0 B0 => ?_
  unfold need_way at H
  refine WC.seq ?_
  refine WC.region ?_
  refine WL.run 1 tt_ok sg0 rfl rfl trivial ?_
  refine WL.nil ?_
  refine QT.n ?_
  refine WC.seq ?_
  refine WC.seq ?_
  refine WC.region ?_
  refine WL.run 3 tt_ok sg0 rfl rfl trivial ?_
  refine WL.nil ?_
  refine QT.n ?_
  refine WC.cond rfl (fun h1 => ?_) (fun h1 => ?_)
  · replace H := of_t H h1
    refine WC.seq ?_
    refine WC.region ?_
    refine WL.run 1 tt_ok sg0 rfl rfl trivial ?_
    refine WL.nil ?_
    refine QT.n ?_
    refine WC.ret ?_
    refine QT.r ?_
    cases H
    exact Ends.auto rfl rfl rfl trivial
  replace H := of_f H h1
  refine WC.skip ?_
  refine QT.n ?_
  refine WC.seq ?_
  refine WC.seq ?_
  refine WC.region ?_
  refine WL.run 3 tt_ok sg0 rfl rfl trivial ?_
  refine WL.nil ?_
  refine QT.n ?_
  refine WC.cond rfl (fun h2 => ?_) (fun h2 => ?_)
  · replace H := of_t H h2
    refine WC.seq ?_
    refine WC.region ?_
    refine WL.run 1 tt_ok sg0 rfl rfl trivial ?_
    refine WL.nil ?_
    refine QT.n ?_
    refine WC.ret ?_
    refine QT.r ?_
    cases H
    exact Ends.auto rfl rfl rfl trivial
  replace H := of_f H h2
  refine WC.skip ?_
  refine QT.n ?_
  refine WC.seq ?_
  refine WC.region ?_
  refine WL.run 2 tt_ok sg0 rfl rfl trivial ?_
  refine WL.nil ?_
  refine QT.n ?_
  refine WC.seq ?_
  refine WC.seq ?_
  refine WC.region ?_
  refine WL.run 3 tt_ok sg0 rfl rfl trivial ?_
  refine WL.nil ?_
  refine QT.n ?_
  refine WC.block ?_
  refine WC.loop (ι := {x : Nat × (Int × Bool × Int) // need_way_l4 a0 a1 x.1 x.2 = some r}) (fun x => [(0, .d (slT enc_api_Decl a0)), (1, .d (slT enc_api_Need a1)), (5, .d (.int .u64 x.1.2.1)), (6, .d (.bool x.1.2.2.1)), (16, .d (slT enc_api_Need a1)), (17, .d (.int .i64 (a1.length : Int))), (18, .d (.int .i64 x.1.2.2.2))]) (fun x => []) (fun x => x.1.1) ⟨(fuel, (0, false, 0)), H⟩ (Less.mk' ⟨rfl, rfl, rfl, rfl, rfl, rfl, rfl, trivial⟩ trivial) fun x => ?_
  obtain ⟨⟨k4, s3⟩, H⟩ := x
  rcases k4 with _ | k4
  · exact of_none H
  rw [need_way_l4] at H
  refine WC.seq ?_
  refine WC.region ?_
  refine WL.run 1 tt_ok sg0 rfl rfl trivial ?_
  refine WL.nil ?_
  refine QT.n ?_
  refine WC.seq ?_
  refine WC.cond rfl (fun h5 => ?_) (fun h5 => ?_)
  · replace H := of_t H h5
    refine WC.skip ?_
    refine QT.n ?_
    refine WC.seq ?_
    refine WC.block ?_
    refine WC.seq ?_
    refine WC.region ?_
    obtain ⟨g6, H⟩ := of_need H
    refine WL.run 2 tt_ok sg0 rfl rfl ⟨⟨(nIn_ok g6).1, (nIn_ok g6).2, rfl⟩, trivial⟩ ?_
    refine WL.alloc 108 tt_ok rfl rfl rfl ?_
    refine WL.eff 0 tt_ok et_ok eg0 rfl rfl rfl trivial ?_
    refine WL.nil ?_
    refine QT.n ?_
    refine WC.seq ?_
    refine WC.seq ?_
    refine WC.region ?_
    refine WL.run 2 tt_ok sg0 rfl rfl trivial ?_
    obtain ⟨x7, hx7, H⟩ := of_bind H
    refine WL.call [] (need_one_0 _ _ hx7) need_one_f rfl rfl trivial rfl rfl rfl ?_
    refine WL.run 1 tt_ok sg0 rfl rfl trivial ?_
    refine WL.nil ?_
    refine QT.n ?_
    refine WC.seq ?_
    refine WC.region ?_
    refine WL.run 2 tt_ok sg0 rfl rfl trivial ?_
    refine WL.nil ?_
    refine QT.n ?_
    refine WC.cond rfl (fun h8 => ?_) (fun h8 => ?_)
    · replace H := of_t H h8
      refine WC.seq ?_
      refine WC.region ?_
      refine WL.run 2 tt_ok sg0 rfl rfl trivial ?_
      refine WL.nil ?_
      refine QT.n ?_
      refine WC.ret ?_
      refine QT.r (QB.r (QT.r (QT.r (QB.r (QT.r ?_)))))
      cases H
      exact Ends.auto rfl rfl rfl trivial
    replace H := of_f H h8
    refine WC.skip ?_
    refine QT.n ?_
    refine WC.seq ?_
    refine WC.region ?_
    refine WL.run 3 tt_ok sg0 rfl rfl trivial ?_
    obtain ⟨x9, hx9, H⟩ := of_bind H
    refine WL.call [] (bits_Set_With_0 _ _ hx9) bits_Set_With_f rfl rfl trivial rfl rfl rfl ?_
    refine WL.run 1 tt_ok sg0 rfl rfl trivial ?_
    refine WL.nil ?_
    refine QT.n ?_
    refine WC.region ?_
    refine WL.run 2 tt_ok sg0 rfl rfl trivial ?_
    refine WL.sect 3 1 false tt_ok sg0 rfl rfl (fun _ => trivial) ?_
    refine WL.run 2 tt_ok sg0 rfl rfl ⟨by first | exact id | exact fun h => by rw [h]; rfl | simp_all, trivial⟩ ?_
    refine WL.nil ?_
    refine QB.n (QT.n ?_)
    refine WC.region ?_
    refine WL.run 2 tt_ok sg0 rfl rfl trivial ?_
    refine WL.nil ?_
    refine QT.n ?_
    exact ⟨⟨(k4, (x9, (s3.2.1 || (iEq ((a1.getD s3.2.2.toNat default).Kind) 4)), IntKind.i64.wrap (s3.2.2 + 1))), H⟩, Nat.lt_succ_self _, Less.mk' ⟨rfl, rfl, rfl, rfl, rfl, rfl, rfl, trivial⟩ trivial⟩
  replace H := of_f H h5
  refine WC.exit ?_
  refine QT.x (QT.x (QB.hit (QT.n ?_)))
  refine WC.seq ?_
  refine WC.seq ?_
  refine WC.region ?_
  refine WL.run 1 tt_ok sg0 rfl rfl trivial ?_
  obtain ⟨x10, hx10, H⟩ := of_bind H
  refine WL.call [] (bits_Set_Count_0 _ hx10) bits_Set_Count_f rfl rfl trivial rfl rfl rfl ?_
  refine WL.run 4 tt_ok sg0 rfl rfl trivial ?_
  refine WL.sect 2 5 false tt_ok sg0 rfl rfl (fun _ => trivial) ?_
  refine WL.sect 3 7 true tt_ok sg0 rfl rfl (fun _ => trivial) ?_
  refine WL.sect 1 5 false tt_ok sg0 rfl rfl (fun hb => ⟨by first | exact id | exact ⟨hb, fun h => by rw [hb, h]; rfl⟩ | exact ⟨hb, id⟩ | exact fun h => by rw [hb, h]; rfl | exact fun h => by rw [h]; rfl | simp_all, trivial⟩) ?_
  refine WL.run 1 tt_ok sg0 rfl rfl ⟨by first | exact id | exact fun h => by rw [h]; rfl | simp_all, trivial⟩ ?_
  refine WL.nil ?_
  refine QT.n ?_
  refine WC.cond rfl (fun h11 => ?_) (fun h11 => ?_)
  · replace H := of_t H h11
    refine WC.seq ?_
    refine WC.region ?_
    refine WL.run 1 tt_ok sg0 rfl rfl trivial ?_
    refine WL.nil ?_
    refine QT.n ?_
    refine WC.ret ?_
    refine QT.r ?_
    cases H
    exact Ends.auto rfl rfl rfl trivial
  replace H := of_f H h11
  refine WC.skip ?_
  refine QT.n ?_
  refine WC.seq ?_
  refine WC.region ?_
  refine WL.run 1 tt_ok sg0 rfl rfl trivial ?_
  refine WL.nil ?_
  refine QT.n ?_
  refine WC.ret ?_
  cases H
  exact Ends.auto rfl rfl rfl trivial
theorem need_way_f : hasFunc Tryd.prog 29 Tryd.f29 := ⟨Tryd.func29, rfl, by kernel_rfl⟩

/-! ### logjam/need.Check -/
theorem need_Check_0 (a0 : List T_api_Decl) (a1 : List (List T_api_Need)) {r : Int} (H : need_Check a0 a1 = some r) : LJ.Spec Tryd.prog 14 [.d (slT enc_api_Decl a0), .d (slT enc_sl_api_Need a1)] [] (.d (.int .i64 r)) [] := by
  refine LJ.Spec.code Tryd.func14 rfl 27 rfl rfl [] rfl fun w0 F0 S0 B0 => ?_
  unfold need_Check at H
  refine WC.seq ?_
  refine WC.region ?_
  refine WL.run 1 tt_ok sg0 rfl rfl trivial ?_
  refine WL.nil ?_
  refine QT.n ?_
  refine WC.seq ?_
  refine WC.seq ?_
  refine WC.region ?_
  refine WL.run 3 tt_ok sg0 rfl rfl trivial ?_
  refine WL.nil ?_
  refine QT.n ?_
  refine WC.cond rfl (fun h1 => ?_) (fun h1 => ?_)
  · replace H := of_t H h1
    refine WC.seq ?_
    refine WC.region ?_
    refine WL.run 1 tt_ok sg0 rfl rfl trivial ?_
    refine WL.nil ?_
    refine QT.n ?_
    refine WC.ret ?_
    refine QT.r ?_
    cases H
    exact Ends.auto rfl rfl rfl trivial
  replace H := of_f H h1
  refine WC.skip ?_
  refine QT.n ?_
  refine WC.seq ?_
  refine WC.seq ?_
  refine WC.region ?_
  refine WL.run 3 tt_ok sg0 rfl rfl trivial ?_
  refine WL.nil ?_
  refine QT.n ?_
  refine WC.cond rfl (fun h2 => ?_) (fun h2 => ?_)
  · replace H := of_t H h2
    refine WC.seq ?_
    refine WC.region ?_
    refine WL.run 1 tt_ok sg0 rfl rfl trivial ?_
    refine WL.nil ?_
    refine QT.n ?_
    refine WC.ret ?_
    refine QT.r ?_
    cases H
    exact Ends.auto rfl rfl rfl trivial
  replace H := of_f H h2
  refine WC.skip ?_
  refine QT.n ?_
  refine WC.seq ?_
  refine WC.seq ?_
  refine WC.region ?_
  refine WL.run 3 tt_ok sg0 rfl rfl trivial ?_
  refine WL.nil ?_
  refine QT.n ?_
  refine WC.block ?_
  refine WC.loop (ι := {x : Nat × Int // need_Check_l4 a0 a1 x.1 x.2 = some r}) (fun x => [(0, .d (slT enc_api_Decl a0)), (14, .d (slT enc_sl_api_Need a1)), (15, .d (.int .i64 (a1.length : Int))), (16, .d (.int .i64 x.1.2))]) (fun x => []) (fun x => x.1.1) ⟨(fuel, 0), H⟩ (Less.mk' ⟨rfl, rfl, rfl, rfl, trivial⟩ trivial) fun x => ?_
  obtain ⟨⟨k4, s3⟩, H⟩ := x
  rcases k4 with _ | k4
  · exact of_none H
  rw [need_Check_l4] at H
  refine WC.seq ?_
  refine WC.region ?_
  refine WL.run 1 tt_ok sg0 rfl rfl trivial ?_
  refine WL.nil ?_
  refine QT.n ?_
  refine WC.seq ?_
  refine WC.cond rfl (fun h5 => ?_) (fun h5 => ?_)
  · replace H := of_t H h5
    refine WC.skip ?_
    refine QT.n ?_
    refine WC.seq ?_
    refine WC.block ?_
    refine WC.seq ?_
    refine WC.region ?_
    obtain ⟨g6, H⟩ := of_need H
    refine WL.run 3 tt_ok sg0 rfl rfl ⟨⟨(nIn_ok g6).1, (nIn_ok g6).2, rfl⟩, trivial⟩ ?_
    refine WL.nil ?_
    refine QT.n ?_
    refine WC.seq ?_
    refine WC.region ?_
    refine WL.run 2 tt_ok sg0 rfl rfl trivial ?_
    obtain ⟨x7, hx7, H⟩ := of_bind H
    refine WL.call [] (need_way_0 _ _ hx7) need_way_f rfl rfl trivial rfl rfl rfl ?_
    refine WL.run 1 tt_ok sg0 rfl rfl trivial ?_
    refine WL.nil ?_
    refine QT.n ?_
    refine WC.seq ?_
    refine WC.region ?_
    refine WL.run 2 tt_ok sg0 rfl rfl trivial ?_
    refine WL.nil ?_
    refine QT.n ?_
    refine WC.cond rfl (fun h8 => ?_) (fun h8 => ?_)
    · replace H := of_t H h8
      refine WC.seq ?_
      refine WC.region ?_
      refine WL.run 2 tt_ok sg0 rfl rfl trivial ?_
      refine WL.nil ?_
      refine QT.n ?_
      refine WC.ret ?_
      refine QB.r (QT.r (QT.r (QB.r (QT.r ?_))))
      cases H
      exact Ends.auto rfl rfl rfl trivial
    replace H := of_f H h8
    refine WC.skip ?_
    refine QB.n (QT.n ?_)
    refine WC.region ?_
    refine WL.run 2 tt_ok sg0 rfl rfl trivial ?_
    refine WL.nil ?_
    refine QT.n ?_
    exact ⟨⟨(k4, IntKind.i64.wrap (s3 + 1)), H⟩, Nat.lt_succ_self _, Less.mk' ⟨rfl, rfl, rfl, rfl, trivial⟩ trivial⟩
  replace H := of_f H h5
  refine WC.exit ?_
  refine QT.x (QT.x (QB.hit (QT.n ?_)))
  refine WC.seq ?_
  refine WC.region ?_
  refine WL.run 1 tt_ok sg0 rfl rfl trivial ?_
  refine WL.nil ?_
  refine QT.n ?_
  refine WC.ret ?_
  cases H
  exact Ends.auto rfl rfl rfl trivial
theorem need_Check_f : hasFunc Tryd.prog 14 Tryd.f14 := ⟨Tryd.func14, rfl, by kernel_rfl⟩

/-! ### (*logjam/octet.Out).Num -/
theorem octet_Out_Num_0 (a0 : T_octet_Out) (a1 : Int) {r : T_octet_Out} (H : octet_Out_Num a0 a1 = some r) : LJ.Spec Tryd.prog 25 [.ptr 0 0, .d (.int .u64 a1)] [(0, .box 56 [.own 1]), (1, .row 5 1 (rowOf a0.b))] (.tup []) [(1, .row 5 1 (rowOf r.b)), (0, .box 56 [.own 1])] := by
  refine LJ.Spec.code Tryd.func25 rfl 33 rfl rfl [0] rfl fun w0 F0 S0 B0 => ?_
  unfold octet_Out_Num at H
  refine WC.seq ?_
  refine WC.seq ?_
  refine WC.region ?_
  refine WL.run 2 tt_ok sg0 rfl rfl trivial ?_
  refine WL.nil ?_
  refine QT.n ?_
  refine WC.cond rfl (fun h => absurd h (by decide)) (fun h => ?_)
  refine WC.skip ?_
  refine QT.n ?_
  obtain ⟨K1, hK1, H⟩ := of_withK H
  refine WC.cut (fun E m => ∃ s2 : Int × ByteArray, K1 s2 = some r ∧ LessW E m [(0, .ptr 0 0), (1, .d (.int .u64 s2.1))] [(0, .box 56 [.own 1]), (1, .row 5 1 (rowOf s2.2))]) ?_ ?_
  · refine WC.block ?_
    refine WC.loop (ι := {x : Nat × (Int × ByteArray) // octet_Out_Num_l4 K1 x.1 x.2 = some r}) (fun x => [(0, .ptr 0 0), (1, .d (.int .u64 x.1.2.1))]) (fun x => [(0, .box 56 [.own 1]), (1, .row 5 1 (rowOf x.1.2.2))]) (fun x => x.1.1) ⟨(fuel, (a1, a0.b)), H⟩ (Less.mk' ⟨rfl, rfl, trivial⟩ ⟨rfl, rfl, trivial⟩) fun x => ?_
    obtain ⟨⟨k4, s3⟩, H⟩ := x
    rcases k4 with _ | k4
    · exact of_none H
    rw [octet_Out_Num_l4] at H
    refine WC.seq ?_
    refine WC.seq ?_
    refine WC.region ?_
    refine WL.run 2 tt_ok sg0 rfl rfl trivial ?_
    refine WL.nil ?_
    refine QT.n ?_
    refine WC.cond rfl (fun h5 => ?_) (fun h5 => ?_)
    · replace H := of_t H h5
      refine WC.skip ?_
      refine QT.n ?_
      refine WC.block ?_
      refine WC.seq ?_
      refine WC.region ?_
      refine WL.run 8 tt_ok sg0 rfl rfl trivial ?_
      refine WL.eff 116 tt_ok et_ok eg0 rfl rfl rfl trivial ?_
      obtain ⟨g6, H⟩ := of_need H
      obtain ⟨g7, H⟩ := of_need H
      refine WL.eff 0 tt_ok et_ok eg0 rfl rfl rfl (appOK_bytes rfl (nCap_ok g6)) ?_
      refine WL.row 1 (rowOf (s3.2.push (UInt8.ofNat (Go.bits .or .u8 (IntKind.u8.wrap s3.1) 128).toNat))) rfl (rowOf_one (nIn_ok g7).1 (nIn_ok g7).2) rfl ?_
      refine WL.run 2 tt_ok sg0 rfl rfl trivial ?_
      refine WL.eff 0 tt_ok et_ok eg0 rfl rfl rfl trivial ?_
      refine WL.nil ?_
      refine QT.n ?_
      refine WC.region ?_
      refine WL.run 3 tt_ok sg0 rfl rfl trivial ?_
      refine WL.nil ?_
      refine QB.n (QT.n ?_)
      exact ⟨⟨(k4, (s3.1 / 2 ^ min (7 : Int).toNat IntKind.u64.bits, s3.2.push (UInt8.ofNat (Go.bits .or .u8 (IntKind.u8.wrap s3.1) 128).toNat))), H⟩, Nat.lt_succ_self _, Less.mk' ⟨rfl, rfl, trivial⟩ ⟨rfl, rfl, trivial⟩⟩
    replace H := of_f H h5
    refine WC.exit ?_
    refine QT.x (QT.x (QB.hit (QT.n ?_)))
    exact ⟨(s3.1, s3.2), H, LessW.mk' ⟨AVle.of rfl, AVle.of rfl, trivial⟩ ⟨rfl, rfl, trivial⟩⟩
  · rintro E m ⟨s2, H, hl⟩
    refine WC.lessW hl ?_
    replace H := (hK1 _).symm.trans H
    try dsimp only at H
    refine WC.region ?_
    refine WL.run 7 tt_ok sg0 rfl rfl trivial ?_
    refine WL.eff 129 tt_ok et_ok eg0 rfl rfl rfl trivial ?_
    obtain ⟨g8, H⟩ := of_need H
    obtain ⟨g9, H⟩ := of_need H
    refine WL.eff 0 tt_ok et_ok eg0 rfl rfl rfl (appOK_bytes rfl (nCap_ok g8)) ?_
    refine WL.row 1 (rowOf (s2.2.push (UInt8.ofNat (IntKind.u8.wrap s2.1).toNat))) rfl (rowOf_one (nIn_ok g9).1 (nIn_ok g9).2) rfl ?_
    refine WL.run 2 tt_ok sg0 rfl rfl trivial ?_
    refine WL.eff 0 tt_ok et_ok eg0 rfl rfl rfl trivial ?_
    refine WL.nil ?_
    cases H
    exact Ends.auton rfl rfl rfl ⟨rfl, rfl, trivial⟩
theorem octet_Out_Num_s (n0 n1 : Nat) (hn : nodupB [n0, n1] = true) (a0 : T_octet_Out) (a1 : Int) {r : T_octet_Out} (H : octet_Out_Num a0 a1 = some r) : LJ.Spec Tryd.prog 25 [.ptr n0 0, .d (.int .u64 a1)] [(n0, .box 56 [.own n1]), (n1, .row 5 1 (rowOf a0.b))] (.tup []) [(n1, .row 5 1 (rowOf r.b)), (n0, .box 56 [.own n1])] :=
  Spec.names [n0, n1] hn rfl rfl (octet_Out_Num_0 a0 a1 H)
theorem octet_Out_Num_f : hasFunc Tryd.prog 25 Tryd.f25 := ⟨Tryd.func25, rfl, by kernel_rfl⟩

/-! ### (*logjam/octet.Out).Byte -/
theorem octet_Out_Byte_0 (a0 : T_octet_Out) (a1 : Int) {r : T_octet_Out} (H : octet_Out_Byte a0 a1 = some r) : LJ.Spec Tryd.prog 26 [.ptr 0 0, .d (.int .i64 a1)] [(0, .box 56 [.own 1]), (1, .row 5 1 (rowOf a0.b))] (.tup []) [(1, .row 5 1 (rowOf r.b)), (0, .box 56 [.own 1])] := by
  refine LJ.Spec.code Tryd.func26 rfl 17 rfl rfl [0] rfl fun w0 F0 S0 B0 => ?_
  unfold octet_Out_Byte at H
  refine WC.seq ?_
  refine WC.region ?_
  refine WL.run 2 tt_ok sg0 rfl rfl trivial ?_
  refine WL.nil ?_
  refine QT.n ?_
  refine WC.cond rfl (fun h => ?_) (fun h => absurd h (by decide))
  refine WC.region ?_
  refine WL.run 7 tt_ok sg0 rfl rfl trivial ?_
  refine WL.eff 113 tt_ok et_ok eg0 rfl rfl rfl trivial ?_
  obtain ⟨g1, H⟩ := of_need H
  obtain ⟨g2, H⟩ := of_need H
  refine WL.eff 0 tt_ok et_ok eg0 rfl rfl rfl (appOK_bytes rfl (nCap_ok g1)) ?_
  refine WL.row 1 (rowOf (a0.b.push (UInt8.ofNat (IntKind.u8.wrap a1).toNat))) rfl (rowOf_one (nIn_ok g2).1 (nIn_ok g2).2) rfl ?_
  refine WL.run 2 tt_ok sg0 rfl rfl trivial ?_
  refine WL.eff 0 tt_ok et_ok eg0 rfl rfl rfl trivial ?_
  refine WL.nil ?_
  cases H
  exact Ends.auton rfl rfl rfl ⟨rfl, rfl, trivial⟩
theorem octet_Out_Byte_s (n0 n1 : Nat) (hn : nodupB [n0, n1] = true) (a0 : T_octet_Out) (a1 : Int) {r : T_octet_Out} (H : octet_Out_Byte a0 a1 = some r) : LJ.Spec Tryd.prog 26 [.ptr n0 0, .d (.int .i64 a1)] [(n0, .box 56 [.own n1]), (n1, .row 5 1 (rowOf a0.b))] (.tup []) [(n1, .row 5 1 (rowOf r.b)), (n0, .box 56 [.own n1])] :=
  Spec.names [n0, n1] hn rfl rfl (octet_Out_Byte_0 a0 a1 H)
theorem octet_Out_Byte_f : hasFunc Tryd.prog 26 Tryd.f26 := ⟨Tryd.func26, rfl, by kernel_rfl⟩

/-! ### (*logjam/octet.Out).Done -/
theorem octet_Out_Done_0 (a0 : T_octet_Out) {r : ByteArray} (H : octet_Out_Done a0 = some r) : LJ.Spec Tryd.prog 28 [.ptr 0 0] [(0, .box 56 [.own 1]), (1, .row 5 1 (rowOf a0.b))] (.d (.str r)) [(1, .row 5 1 (rowOf a0.b)), (0, .box 56 [.own 1])] := by
  refine LJ.Spec.code Tryd.func28 rfl 10 rfl rfl [0] rfl fun w0 F0 S0 B0 => ?_
  unfold octet_Out_Done at H
  refine WC.seq ?_
  refine WC.region ?_
  refine WL.run 1 tt_ok sg0 rfl rfl trivial ?_
  refine WL.nil ?_
  refine QT.n ?_
  refine WC.seq ?_
  refine WC.seq ?_
  refine WC.region ?_
  refine WL.run 2 tt_ok sg0 rfl rfl trivial ?_
  refine WL.nil ?_
  refine QT.n ?_
  refine WC.cond rfl (fun h => absurd h (by decide)) (fun h => ?_)
  refine WC.skip ?_
  refine QT.n ?_
  refine WC.seq ?_
  refine WC.region ?_
  refine WL.run 4 tt_ok sg0 rfl rfl trivial ?_
  refine WL.ownStr a0.b tt_ok rfl rfl rfl rfl ?_
  refine WL.run 1 tt_ok sg0 rfl rfl trivial ?_
  refine WL.nil ?_
  refine QT.n ?_
  refine WC.ret ?_
  cases H
  exact Ends.auto rfl rfl rfl ⟨rfl, rfl, trivial⟩
theorem octet_Out_Done_s (n0 n1 : Nat) (hn : nodupB [n0, n1] = true) (a0 : T_octet_Out) {r : ByteArray} (H : octet_Out_Done a0 = some r) : LJ.Spec Tryd.prog 28 [.ptr n0 0] [(n0, .box 56 [.own n1]), (n1, .row 5 1 (rowOf a0.b))] (.d (.str r)) [(n1, .row 5 1 (rowOf a0.b)), (n0, .box 56 [.own n1])] :=
  Spec.names [n0, n1] hn rfl rfl (octet_Out_Done_0 a0 H)
theorem octet_Out_Done_f : hasFunc Tryd.prog 28 Tryd.f28 := ⟨Tryd.func28, rfl, by kernel_rfl⟩

/-! ### logjam/need.Put -/
theorem need_Put_0 (a0 : List T_api_Decl) (a1 : List (List T_api_Need)) {r : ByteArray × Int} (H : need_Put a0 a1 = some r) : LJ.Spec Tryd.prog 12 [.d (slT enc_api_Decl a0), .d (slT enc_sl_api_Need a1)] [] (.tup [.d (.str r.1), .d (.int .i64 r.2)]) [] := by
  refine LJ.Spec.code Tryd.func12 rfl 63 rfl rfl [] rfl fun w0 F0 S0 B0 => ?_
  unfold need_Put at H
  refine WC.seq ?_
  refine WC.region ?_
  refine WL.run 2 tt_ok sg0 rfl rfl trivial ?_
  refine WL.nil ?_
  refine QT.n ?_
  refine WC.seq ?_
  refine WC.seq ?_
  refine WC.region ?_
  refine WL.run 2 tt_ok sg0 rfl rfl trivial ?_
  obtain ⟨x1, hx1, H⟩ := of_bind H
  refine WL.call [] (need_Check_0 _ _ hx1) need_Check_f rfl rfl trivial rfl rfl rfl ?_
  refine WL.run 1 tt_ok sg0 rfl rfl trivial ?_
  refine WL.nil ?_
  refine QT.n ?_
  refine WC.seq ?_
  refine WC.region ?_
  refine WL.run 2 tt_ok sg0 rfl rfl trivial ?_
  refine WL.nil ?_
  refine QT.n ?_
  refine WC.cond rfl (fun h2 => ?_) (fun h2 => ?_)
  · replace H := of_t H h2
    refine WC.seq ?_
    refine WC.region ?_
    refine WL.run 3 tt_ok sg0 rfl rfl trivial ?_
    refine WL.nil ?_
    refine QT.n ?_
    refine WC.ret ?_
    refine QT.r ?_
    cases H
    exact Ends.auto rfl rfl rfl trivial
  replace H := of_f H h2
  refine WC.skip ?_
  refine QT.n ?_
  refine WC.seq ?_
  refine WC.region ?_
  refine WL.run 1 tt_ok sg0 rfl rfl trivial ?_
  refine WL.eff 119 tt_ok et_ok eg0 rfl rfl rfl trivial ?_
  refine WL.run 1 tt_ok sg0 rfl rfl trivial ?_
  refine WL.nil ?_
  refine QT.n ?_
  refine WC.seq ?_
  refine WC.region ?_
  refine WL.run 4 tt_ok sg0 rfl rfl trivial ?_
  refine WL.nilF 119 0 4190 5 1 rfl ?_
  refine WL.row 4190 (rowOf ByteArray.empty) rfl rfl rfl ?_
  obtain ⟨x3, hx3, H⟩ := of_bind H
  refine WL.call [4190] (octet_Out_Num_s 119 4190 rfl _ _ hx3) octet_Out_Num_f rfl rfl ⟨rfl, rfl, trivial⟩ rfl rfl rfl ?_
  refine WL.nil ?_
  refine QT.n ?_
  refine WC.seq ?_
  refine WC.seq ?_
  refine WC.region ?_
  refine WL.run 3 tt_ok sg0 rfl rfl trivial ?_
  refine WL.nil ?_
  refine QT.n ?_
  refine WC.block ?_
  refine WC.loop (ι := {x : Nat × (Int × ByteArray) // need_Put_l5 a1 x.1 x.2 = some r}) (fun x => [(7, .ptr 119 0), (25, .d (slT enc_sl_api_Need a1)), (26, .d (.int .i64 (a1.length : Int))), (27, .d (.int .i64 x.1.2.1))]) (fun x => [(119, .box 56 [.own 4190]), (4190, .row 5 1 (rowOf x.1.2.2))]) (fun x => x.1.1) ⟨(fuel, (0, x3.b)), H⟩ (Less.mk' ⟨rfl, rfl, rfl, rfl, trivial⟩ ⟨rfl, rfl, trivial⟩) fun x => ?_
  obtain ⟨⟨k5, s4⟩, H⟩ := x
  rcases k5 with _ | k5
  · exact of_none H
  rw [need_Put_l5] at H
  refine WC.seq ?_
  refine WC.region ?_
  refine WL.run 1 tt_ok sg0 rfl rfl trivial ?_
  refine WL.nil ?_
  refine QT.n ?_
  refine WC.seq ?_
  refine WC.cond rfl (fun h6 => ?_) (fun h6 => ?_)
  · replace H := of_t H h6
    refine WC.skip ?_
    refine QT.n ?_
    obtain ⟨K7, hK7, H⟩ := of_withK H
    refine WC.cut (fun E m => ∃ s8 : ByteArray, K7 s8 = some r ∧ LessW E m [(7, .ptr 119 0), (25, .d (slT enc_sl_api_Need a1)), (26, .d (.int .i64 (a1.length : Int))), (27, .d (.int .i64 s4.1))] [(119, .box 56 [.own 4190]), (4190, .row 5 1 (rowOf s8))]) ?_ ?_
    · refine WC.block ?_
      refine WC.seq ?_
      refine WC.region ?_
      obtain ⟨g9, H⟩ := of_need H
      refine WL.run 3 tt_ok sg0 rfl rfl ⟨⟨(nIn_ok g9).1, (nIn_ok g9).2, rfl⟩, trivial⟩ ?_
      refine WL.nil ?_
      refine QT.n ?_
      refine WC.seq ?_
      refine WC.region ?_
      refine WL.run 4 tt_ok sg0 rfl rfl trivial ?_
      obtain ⟨x10, hx10, H⟩ := of_bind H
      refine WL.call [4190] (octet_Out_Num_s 119 4190 rfl _ _ hx10) octet_Out_Num_f rfl rfl ⟨rfl, rfl, trivial⟩ rfl rfl rfl ?_
      refine WL.nil ?_
      refine QT.n ?_
      refine WC.seq ?_
      refine WC.region ?_
      refine WL.run 3 tt_ok sg0 rfl rfl trivial ?_
      refine WL.nil ?_
      refine QT.n ?_
      refine WC.block ?_
      refine WC.loop (ι := {x : Nat × (Int × ByteArray) // need_Put_l12 a1 s4 K7 x.1 x.2 = some r}) (fun x => [(7, .ptr 119 0), (25, .d (slT enc_sl_api_Need a1)), (26, .d (.int .i64 (a1.length : Int))), (27, .d (.int .i64 s4.1)), (36, .d (slT enc_api_Need (a1.getD s4.1.toNat default))), (37, .d (.int .i64 ((a1.getD s4.1.toNat default).length : Int))), (38, .d (.int .i64 x.1.2.1))]) (fun x => [(119, .box 56 [.own 4190]), (4190, .row 5 1 (rowOf x.1.2.2))]) (fun x => x.1.1) ⟨(fuel, (0, x10.b)), H⟩ (Less.mk' ⟨rfl, rfl, rfl, rfl, rfl, rfl, rfl, trivial⟩ ⟨rfl, rfl, trivial⟩) fun x => ?_
      obtain ⟨⟨k12, s11⟩, H⟩ := x
      rcases k12 with _ | k12
      · exact of_none H
      rw [need_Put_l12] at H
      refine WC.seq ?_
      refine WC.region ?_
      refine WL.run 1 tt_ok sg0 rfl rfl trivial ?_
      refine WL.nil ?_
      refine QT.n ?_
      refine WC.seq ?_
      refine WC.cond rfl (fun h13 => ?_) (fun h13 => ?_)
      · replace H := of_t H h13
        refine WC.skip ?_
        refine QT.n ?_
        refine WC.seq ?_
        refine WC.block ?_
        refine WC.seq ?_
        refine WC.region ?_
        obtain ⟨g14, H⟩ := of_need H
        refine WL.run 2 tt_ok sg0 rfl rfl ⟨⟨(nIn_ok g14).1, (nIn_ok g14).2, rfl⟩, trivial⟩ ?_
        refine WL.alloc 111 tt_ok rfl rfl rfl ?_
        refine WL.eff 0 tt_ok et_ok eg0 rfl rfl rfl trivial ?_
        refine WL.nil ?_
        refine QT.n ?_
        refine WC.seq ?_
        refine WC.region ?_
        refine WL.run 3 tt_ok sg0 rfl rfl trivial ?_
        obtain ⟨x15, hx15, H⟩ := of_bind H
        refine WL.call [4190] (octet_Out_Byte_s 119 4190 rfl _ _ hx15) octet_Out_Byte_f rfl rfl ⟨rfl, rfl, trivial⟩ rfl rfl rfl ?_
        refine WL.nil ?_
        refine QT.n ?_
        refine WC.seq ?_
        refine WC.region ?_
        refine WL.run 4 tt_ok sg0 rfl rfl trivial ?_
        obtain ⟨x16, hx16, H⟩ := of_bind H
        refine WL.call [4190] (octet_Out_Num_s 119 4190 rfl _ _ hx16) octet_Out_Num_f rfl rfl ⟨rfl, rfl, trivial⟩ rfl rfl rfl ?_
        refine WL.nil ?_
        refine QT.n ?_
        refine WC.seq ?_
        refine WC.region ?_
        refine WL.run 2 tt_ok sg0 rfl rfl trivial ?_
        obtain ⟨x17, hx17, H⟩ := of_bind H
        refine WL.call [] (need_counted_0 _ hx17) need_counted_f rfl rfl trivial rfl rfl rfl ?_
        refine WL.nil ?_
        refine QT.n ?_
        refine WC.cond rfl (fun h18 => ?_) (fun h18 => ?_)
        · replace H := of_t H h18
          refine WC.region ?_
          refine WL.run 4 tt_ok sg0 rfl rfl trivial ?_
          obtain ⟨x19, hx19, H⟩ := of_bind H
          refine WL.call [4190] (octet_Out_Num_s 119 4190 rfl _ _ hx19) octet_Out_Num_f rfl rfl ⟨rfl, rfl, trivial⟩ rfl rfl rfl ?_
          refine WL.nil ?_
          refine QB.n (QT.n ?_)
          refine WC.region ?_
          refine WL.run 2 tt_ok sg0 rfl rfl trivial ?_
          refine WL.nil ?_
          refine QT.n ?_
          exact ⟨⟨(k12, (IntKind.i64.wrap (s11.1 + 1), x19.b)), H⟩, Nat.lt_succ_self _, Less.mk' ⟨rfl, rfl, rfl, rfl, rfl, rfl, rfl, trivial⟩ ⟨rfl, rfl, trivial⟩⟩
        replace H := of_f H h18
        refine WC.skip ?_
        refine QB.n (QT.n ?_)
        refine WC.region ?_
        refine WL.run 2 tt_ok sg0 rfl rfl trivial ?_
        refine WL.nil ?_
        refine QT.n ?_
        exact ⟨⟨(k12, (IntKind.i64.wrap (s11.1 + 1), x16.b)), H⟩, Nat.lt_succ_self _, Less.mk' ⟨rfl, rfl, rfl, rfl, rfl, rfl, rfl, trivial⟩ ⟨rfl, rfl, trivial⟩⟩
      replace H := of_f H h13
      refine WC.exit ?_
      refine QT.x (QT.x (QB.hit (QB.n (QT.n ?_))))
      exact ⟨s11.2, H, LessW.mk' ⟨AVle.of rfl, AVle.of rfl, AVle.of rfl, AVle.of rfl, trivial⟩ ⟨rfl, rfl, trivial⟩⟩
    · rintro E m ⟨s8, H, hl⟩
      refine WC.lessW hl ?_
      replace H := (hK7 _).symm.trans H
      try dsimp only at H
      refine WC.region ?_
      refine WL.run 2 tt_ok sg0 rfl rfl trivial ?_
      refine WL.nil ?_
      refine QT.n ?_
      exact ⟨⟨(k5, (IntKind.i64.wrap (s4.1 + 1), s8)), H⟩, Nat.lt_succ_self _, Less.mk' ⟨rfl, rfl, rfl, rfl, trivial⟩ ⟨rfl, rfl, trivial⟩⟩
  replace H := of_f H h6
  refine WC.exit ?_
  refine QT.x (QT.x (QB.hit (QT.n ?_)))
  refine WC.seq ?_
  refine WC.region ?_
  refine WL.run 1 tt_ok sg0 rfl rfl trivial ?_
  obtain ⟨x20, hx20, H⟩ := of_bind H
  refine WL.call [4190] (octet_Out_Done_s 119 4190 rfl _ hx20) octet_Out_Done_f rfl rfl ⟨rfl, rfl, trivial⟩ rfl rfl rfl ?_
  refine WL.run 2 tt_ok sg0 rfl rfl trivial ?_
  refine WL.nil ?_
  refine QT.n ?_
  refine WC.ret ?_
  cases H
  exact Ends.auto rfl rfl rfl trivial
theorem need_Put_f : hasFunc Tryd.prog 12 Tryd.f12 := ⟨Tryd.func12, rfl, by kernel_rfl⟩

/-! ### logjam/octet.Open -/
theorem octet_Open_0 (a0 : ByteArray) {r : T_octet_In} (H : octet_Open a0 = some r) : LJ.Spec Tryd.prog 31 [.d (.str a0)] [] (.ptr 0 0) [(0, .box 91 [.d (.str r.s), .d (.int .i64 r.at_), .d (.int .i64 r.err)])] := by
  refine LJ.Spec.code Tryd.func31 rfl 6 rfl rfl [] rfl fun w0 F0 S0 B0 => ?_
  unfold octet_Open at H
  refine WC.seq ?_
  refine WC.region ?_
  refine WL.run 1 tt_ok sg0 rfl rfl trivial ?_
  refine WL.nil ?_
  refine QT.n ?_
  refine WC.seq ?_
  refine WC.region ?_
  refine WL.run 2 tt_ok sg0 rfl rfl trivial ?_
  refine WL.eff 0 tt_ok et_ok eg0 rfl rfl rfl trivial ?_
  refine WL.run 1 tt_ok sg0 rfl rfl trivial ?_
  refine WL.nil ?_
  refine QT.n ?_
  refine WC.ret ?_
  cases H
  exact Ends.auto rfl rfl rfl ⟨rfl, trivial⟩
theorem octet_Open_s (n0 : Nat) (hn : nodupB [n0] = true) (a0 : ByteArray) {r : T_octet_In} (H : octet_Open a0 = some r) : LJ.Spec Tryd.prog 31 [.d (.str a0)] [] (.ptr n0 0) [(n0, .box 91 [.d (.str r.s), .d (.int .i64 r.at_), .d (.int .i64 r.err)])] :=
  Spec.names [n0] hn rfl rfl (octet_Open_0 a0 H)
theorem octet_Open_f : hasFunc Tryd.prog 31 Tryd.f31 := ⟨Tryd.func31, rfl, by kernel_rfl⟩

/-! ### (*logjam/octet.In).fail -/
theorem octet_In_fail_0 (a0 : T_octet_In) (a1 : Int) {r : T_octet_In} (H : octet_In_fail a0 a1 = some r) : LJ.Spec Tryd.prog 61 [.ptr 0 0, .d (.int .i64 a1)] [(0, .box 91 [.d (.str a0.s), .d (.int .i64 a0.at_), .d (.int .i64 a0.err)])] (.tup []) [(0, .box 91 [.d (.str r.s), .d (.int .i64 r.at_), .d (.int .i64 r.err)])] := by
  refine LJ.Spec.code Tryd.func61 rfl 21 rfl rfl [0] rfl fun w0 F0 S0 B0 => ?_
  unfold octet_In_fail at H
  refine WC.seq ?_
  refine WC.region ?_
  refine WL.run 5 tt_ok sg0 rfl rfl trivial ?_
  refine WL.nil ?_
  refine QT.n ?_
  refine WC.cond rfl (fun h1 => ?_) (fun h1 => ?_)
  · replace H := of_t H h1
    refine WC.region ?_
    refine WL.run 10 tt_ok sg0 rfl rfl trivial ?_
    refine WL.eff 0 tt_ok et_ok eg0 rfl rfl rfl trivial ?_
    refine WL.run 2 tt_ok sg0 rfl rfl trivial ?_
    refine WL.eff 0 tt_ok et_ok eg0 rfl rfl rfl trivial ?_
    refine WL.nil ?_
    cases H
    exact Ends.auton rfl rfl rfl ⟨rfl, trivial⟩
  replace H := of_f H h1
  refine WC.skip ?_
  cases H
  exact Ends.auton rfl rfl rfl ⟨rfl, trivial⟩
theorem octet_In_fail_s (n0 : Nat) (hn : nodupB [n0] = true) (a0 : T_octet_In) (a1 : Int) {r : T_octet_In} (H : octet_In_fail a0 a1 = some r) : LJ.Spec Tryd.prog 61 [.ptr n0 0, .d (.int .i64 a1)] [(n0, .box 91 [.d (.str a0.s), .d (.int .i64 a0.at_), .d (.int .i64 a0.err)])] (.tup []) [(n0, .box 91 [.d (.str r.s), .d (.int .i64 r.at_), .d (.int .i64 r.err)])] :=
  Spec.names [n0] hn rfl rfl (octet_In_fail_0 a0 a1 H)
theorem octet_In_fail_f : hasFunc Tryd.prog 61 Tryd.f61 := ⟨Tryd.func61, rfl, by kernel_rfl⟩

/-! ### (*logjam/octet.In).Byte -/
theorem octet_In_Byte_0 (a0 : T_octet_In) {r : Int × T_octet_In} (H : octet_In_Byte a0 = some r) : LJ.Spec Tryd.prog 48 [.ptr 0 0] [(0, .box 91 [.d (.str a0.s), .d (.int .i64 a0.at_), .d (.int .i64 a0.err)])] (.d (.int .i64 r.1)) [(0, .box 91 [.d (.str r.2.s), .d (.int .i64 r.2.at_), .d (.int .i64 r.2.err)])] := by
  refine LJ.Spec.code Tryd.func48 rfl 35 rfl rfl [0] rfl fun w0 F0 S0 B0 => ?_
  unfold octet_In_Byte at H
  refine WC.seq ?_
  refine WC.region ?_
  refine WL.run 1 tt_ok sg0 rfl rfl trivial ?_
  refine WL.nil ?_
  refine QT.n ?_
  refine WC.seq ?_
  refine WC.seq ?_
  refine WC.region ?_
  refine WL.run 2 tt_ok sg0 rfl rfl trivial ?_
  refine WL.nil ?_
  refine QT.n ?_
  refine WC.cond rfl (fun h => absurd h (by decide)) (fun h => ?_)
  refine WC.skip ?_
  refine QT.n ?_
  refine WC.seq ?_
  refine WC.seq ?_
  refine WC.heldP (.one 0 true (.one 1 true (.one 2 true (.one 3 true (.one 4 true (.one 5 true (.one 6 true (.one 7 true (.one 8 true (.one 9 true .done)))))))))) [0] [0] rfl (by kernel_rfl) rfl (by kernel_rfl) rfl rfl (fun _ h => h) rfl rfl rfl (fun _ _ _ h => h) fun FK NK wK K => ?_
  refine WH.run 10 tt_ok rfl rfl rfl rfl trivial ?_
  refine WH.nil rfl ?_
  refine QT.n ?_
  refine WC.cond rfl (fun h1 => ?_) (fun h1 => ?_)
  · replace H := of_t H h1
    refine WC.seq ?_
    refine WC.region ?_
    refine WL.run 1 tt_ok sg0 rfl rfl trivial ?_
    obtain ⟨x2, hx2, H⟩ := of_bind H
    refine WL.call [] (octet_In_fail_s 0 rfl _ _ hx2) octet_In_fail_f rfl rfl ⟨rfl, trivial⟩ rfl rfl rfl ?_
    refine WL.nil ?_
    refine QT.n ?_
    refine WC.seq ?_
    refine WC.region ?_
    refine WL.run 1 tt_ok sg0 rfl rfl trivial ?_
    refine WL.nil ?_
    refine QT.n ?_
    refine WC.ret ?_
    refine QT.r ?_
    cases H
    exact Ends.auto rfl rfl rfl ⟨rfl, trivial⟩
  replace H := of_f H h1
  refine WC.skip ?_
  refine QT.n ?_
  refine WC.seq ?_
  refine WC.region ?_
  refine WL.run 7 tt_ok sg0 rfl rfl trivial ?_
  refine WL.eff 0 tt_ok et_ok eg0 rfl rfl rfl trivial ?_
  refine WL.nil ?_
  refine QT.n ?_
  refine WC.seq ?_
  refine WC.heldP (.one 0 true (.one 1 true (.one 2 true (.one 3 true (.one 4 true (.one 5 true (.one 6 true (.one 7 true (.one 8 true (.one 9 true (.one 10 true (.one 11 true .done)))))))))))) [0] [0] rfl (by kernel_rfl) rfl (by kernel_rfl) rfl rfl (fun _ h => h) rfl rfl rfl (fun _ _ _ h => h) fun FK NK wK K => ?_
  obtain ⟨g3, H⟩ := of_need H
  refine WH.run 12 tt_ok rfl rfl rfl rfl ⟨(nIn_ok g3), trivial⟩ ?_
  refine WH.nil rfl ?_
  refine QT.n ?_
  refine WC.ret ?_
  cases H
  exact Ends.auto rfl rfl rfl ⟨rfl, trivial⟩
theorem octet_In_Byte_s (n0 : Nat) (hn : nodupB [n0] = true) (a0 : T_octet_In) {r : Int × T_octet_In} (H : octet_In_Byte a0 = some r) : LJ.Spec Tryd.prog 48 [.ptr n0 0] [(n0, .box 91 [.d (.str a0.s), .d (.int .i64 a0.at_), .d (.int .i64 a0.err)])] (.d (.int .i64 r.1)) [(n0, .box 91 [.d (.str r.2.s), .d (.int .i64 r.2.at_), .d (.int .i64 r.2.err)])] :=
  Spec.names [n0] hn rfl rfl (octet_In_Byte_0 a0 H)
theorem octet_In_Byte_f : hasFunc Tryd.prog 48 Tryd.f48 := ⟨Tryd.func48, rfl, by kernel_rfl⟩

/-! ### (*logjam/octet.In).Num -/
theorem octet_In_Num_0 (a0 : T_octet_In) {r : Int × T_octet_In} (H : octet_In_Num a0 = some r) : LJ.Spec Tryd.prog 46 [.ptr 0 0] [(0, .box 91 [.d (.str a0.s), .d (.int .i64 a0.at_), .d (.int .i64 a0.err)])] (.d (.int .u64 r.1)) [(0, .box 91 [.d (.str r.2.s), .d (.int .i64 r.2.at_), .d (.int .i64 r.2.err)])] := by
  refine LJ.Spec.code Tryd.func46 rfl 49 rfl rfl [0] rfl fun w0 F0 S0 B0 => ?_
  unfold octet_In_Num at H
  refine WC.seq ?_
  refine WC.region ?_
  refine WL.run 1 tt_ok sg0 rfl rfl trivial ?_
  refine WL.nil ?_
  refine QT.n ?_
  refine WC.seq ?_
  refine WC.region ?_
  refine WL.run 1 tt_ok sg0 rfl rfl trivial ?_
  refine WL.nil ?_
  refine QT.n ?_
  refine WC.seq ?_
  refine WC.seq ?_
  refine WC.region ?_
  refine WL.run 1 tt_ok sg0 rfl rfl trivial ?_
  refine WL.nil ?_
  refine QT.n ?_
  refine WC.block ?_
  refine WC.loop (ι := {x : Nat × (Int × Int × ByteArray × Int × Int) // octet_In_Num_l2 x.1 x.2 = some r}) (fun x => [(0, .ptr 0 0), (3, .d (.int .u64 x.1.2.1)), (6, .d (.int .i64 x.1.2.2.1))]) (fun x => [(0, .box 91 [.d (.str x.1.2.2.2.1), .d (.int .i64 x.1.2.2.2.2.1), .d (.int .i64 x.1.2.2.2.2.2)])]) (fun x => x.1.1) ⟨(fuel, (0, 0, a0.s, a0.at_, a0.err)), H⟩ (Less.mk' ⟨rfl, rfl, rfl, trivial⟩ ⟨rfl, trivial⟩) fun x => ?_
  obtain ⟨⟨k2, s1⟩, H⟩ := x
  rcases k2 with _ | k2
  · exact of_none H
  rw [octet_In_Num_l2] at H
  refine WC.seq ?_
  refine WC.region ?_
  refine WL.run 1 tt_ok sg0 rfl rfl trivial ?_
  refine WL.nil ?_
  refine QT.n ?_
  refine WC.seq ?_
  refine WC.cond rfl (fun h3 => ?_) (fun h3 => ?_)
  · replace H := of_t H h3
    refine WC.skip ?_
    refine QT.n ?_
    refine WC.seq ?_
    refine WC.block ?_
    refine WC.seq ?_
    refine WC.region ?_
    refine WL.run 2 tt_ok sg0 rfl rfl trivial ?_
    refine WL.nil ?_
    refine QT.n ?_
    refine WC.seq ?_
    refine WC.region ?_
    refine WL.run 1 tt_ok sg0 rfl rfl trivial ?_
    obtain ⟨x4, hx4, H⟩ := of_bind H
    refine WL.call [] (octet_In_Byte_s 0 rfl _ hx4) octet_In_Byte_f rfl rfl ⟨rfl, trivial⟩ rfl rfl rfl ?_
    refine WL.run 1 tt_ok sg0 rfl rfl trivial ?_
    refine WL.nil ?_
    refine QT.n ?_
    refine WC.seq ?_
    refine WC.seq ?_
    refine WC.region ?_
    refine WL.run 3 tt_ok sg0 rfl rfl trivial ?_
    refine WL.grun 5 2 false 13 tt_ok sg0 rfl rfl rfl rfl trivial ?_
    refine WL.pickF rfl rfl rfl rfl rfl rfl ?_
    refine WL.nil ?_
    refine QT.n ?_
    refine WC.cond rfl (fun h5 => ?_) (fun h5 => ?_)
    · replace H := of_t H h5
      refine WC.seq ?_
      refine WC.region ?_
      refine WL.run 1 tt_ok sg0 rfl rfl trivial ?_
      refine WL.nil ?_
      refine QT.n ?_
      refine WC.ret ?_
      refine QT.r (QB.r (QT.r (QT.r (QB.r (QT.r ?_)))))
      cases H
      exact Ends.auto rfl rfl rfl ⟨rfl, trivial⟩
    replace H := of_f H h5
    refine WC.skip ?_
    refine QT.n ?_
    refine WC.seq ?_
    refine WC.seq ?_
    refine WC.region ?_
    refine WL.run 3 tt_ok sg0 rfl rfl trivial ?_
    refine WL.sect 2 2 true tt_ok sg0 rfl rfl (fun _ => trivial) ?_
    refine WL.run 2 tt_ok sg0 rfl rfl ⟨by first | exact id | exact fun h => by rw [h]; rfl | simp_all, trivial⟩ ?_
    refine WL.sect 3 6 false tt_ok sg0 rfl rfl (fun _ => trivial) ?_
    refine WL.sect 2 9 true tt_ok sg0 rfl rfl (fun _ => trivial) ?_
    refine WL.sect 1 6 false tt_ok sg0 rfl rfl (fun hb => ⟨by first | exact id | exact ⟨hb, fun h => by rw [hb, h]; rfl⟩ | exact ⟨hb, id⟩ | exact fun h => by rw [hb, h]; rfl | exact fun h => by rw [h]; rfl | simp_all, trivial⟩) ?_
    refine WL.run 1 tt_ok sg0 rfl rfl ⟨by first | exact id | exact fun h => by rw [h]; rfl | simp_all, trivial⟩ ?_
    refine WL.nil ?_
    refine QT.n ?_
    refine WC.cond rfl (fun h6 => ?_) (fun h6 => ?_)
    · replace H := of_t H h6
      refine WC.seq ?_
      refine WC.region ?_
      refine WL.run 1 tt_ok sg0 rfl rfl trivial ?_
      obtain ⟨x7, hx7, H⟩ := of_bind H
      refine WL.call [] (octet_In_fail_s 0 rfl _ _ hx7) octet_In_fail_f rfl rfl ⟨rfl, trivial⟩ rfl rfl rfl ?_
      refine WL.nil ?_
      refine QT.n ?_
      refine WC.seq ?_
      refine WC.region ?_
      refine WL.run 1 tt_ok sg0 rfl rfl trivial ?_
      refine WL.nil ?_
      refine QT.n ?_
      refine WC.ret ?_
      refine QT.r (QB.r (QT.r (QT.r (QB.r (QT.r ?_)))))
      cases H
      exact Ends.auto rfl rfl rfl ⟨rfl, trivial⟩
    replace H := of_f H h6
    refine WC.skip ?_
    refine QT.n ?_
    refine WC.seq ?_
    refine WC.region ?_
    obtain ⟨g8, H⟩ := of_need H
    refine WL.run 9 tt_ok sg0 rfl rfl ⟨(nNn_ok g8), trivial⟩ ?_
    refine WL.nil ?_
    refine QT.n ?_
    refine WC.seq ?_
    refine WC.region ?_
    refine WL.run 2 tt_ok sg0 rfl rfl trivial ?_
    refine WL.nil ?_
    refine QT.n ?_
    refine WC.cond rfl (fun h9 => ?_) (fun h9 => ?_)
    · replace H := of_t H h9
      refine WC.seq ?_
      refine WC.region ?_
      refine WL.run 2 tt_ok sg0 rfl rfl trivial ?_
      refine WL.nil ?_
      refine QT.n ?_
      refine WC.ret ?_
      refine QB.r (QT.r (QT.r (QB.r (QT.r ?_))))
      cases H
      exact Ends.auto rfl rfl rfl ⟨rfl, trivial⟩
    replace H := of_f H h9
    refine WC.skip ?_
    refine QB.n (QT.n ?_)
    refine WC.region ?_
    refine WL.run 2 tt_ok sg0 rfl rfl trivial ?_
    refine WL.nil ?_
    refine QT.n ?_
    exact ⟨⟨(k2, (Go.bits .or .u64 s1.1 (IntKind.u64.wrap ((IntKind.u64.wrap (Go.bits .and .i64 x4.1 127)) * 2 ^ min (IntKind.i64.wrap ((7 : Int) * s1.2.1) : Int).toNat IntKind.u64.bits)), IntKind.i64.wrap (s1.2.1 + 1), x4.2.s, x4.2.at_, x4.2.err)), H⟩, Nat.lt_succ_self _, Less.mk' ⟨rfl, rfl, rfl, trivial⟩ ⟨rfl, trivial⟩⟩
  replace H := of_f H h3
  refine WC.exit ?_
  refine QT.x (QT.x (QB.hit (QT.n ?_)))
  refine WC.seq ?_
  refine WC.region ?_
  refine WL.run 2 tt_ok sg0 rfl rfl trivial ?_
  refine WL.nil ?_
  refine QT.n ?_
  refine WC.ret ?_
  cases H
  exact Ends.auto rfl rfl rfl ⟨rfl, trivial⟩
theorem octet_In_Num_s (n0 : Nat) (hn : nodupB [n0] = true) (a0 : T_octet_In) {r : Int × T_octet_In} (H : octet_In_Num a0 = some r) : LJ.Spec Tryd.prog 46 [.ptr n0 0] [(n0, .box 91 [.d (.str a0.s), .d (.int .i64 a0.at_), .d (.int .i64 a0.err)])] (.d (.int .u64 r.1)) [(n0, .box 91 [.d (.str r.2.s), .d (.int .i64 r.2.at_), .d (.int .i64 r.2.err)])] :=
  Spec.names [n0] hn rfl rfl (octet_In_Num_0 a0 H)
theorem octet_In_Num_f : hasFunc Tryd.prog 46 Tryd.f46 := ⟨Tryd.func46, rfl, by kernel_rfl⟩

/-! ### (*logjam/octet.In).Err -/
theorem octet_In_Err_0 (a0 : T_octet_In) {r : Int} (H : octet_In_Err a0 = some r) : LJ.Spec Tryd.prog 47 [.ptr 0 0] [(0, .box 91 [.d (.str a0.s), .d (.int .i64 a0.at_), .d (.int .i64 a0.err)])] (.d (.int .i64 r)) [(0, .box 91 [.d (.str a0.s), .d (.int .i64 a0.at_), .d (.int .i64 a0.err)])] := by
  refine LJ.Spec.code Tryd.func47 rfl 9 rfl rfl [0] rfl fun w0 F0 S0 B0 => ?_
  unfold octet_In_Err at H
  refine WC.seq ?_
  refine WC.region ?_
  refine WL.run 1 tt_ok sg0 rfl rfl trivial ?_
  refine WL.nil ?_
  refine QT.n ?_
  refine WC.seq ?_
  refine WC.seq ?_
  refine WC.region ?_
  refine WL.run 2 tt_ok sg0 rfl rfl trivial ?_
  refine WL.nil ?_
  refine QT.n ?_
  refine WC.cond rfl (fun h => absurd h (by decide)) (fun h => ?_)
  refine WC.skip ?_
  refine QT.n ?_
  refine WC.seq ?_
  refine WC.region ?_
  refine WL.run 5 tt_ok sg0 rfl rfl trivial ?_
  refine WL.nil ?_
  refine QT.n ?_
  refine WC.ret ?_
  cases H
  exact Ends.auto rfl rfl rfl ⟨rfl, trivial⟩
theorem octet_In_Err_s (n0 : Nat) (hn : nodupB [n0] = true) (a0 : T_octet_In) {r : Int} (H : octet_In_Err a0 = some r) : LJ.Spec Tryd.prog 47 [.ptr n0 0] [(n0, .box 91 [.d (.str a0.s), .d (.int .i64 a0.at_), .d (.int .i64 a0.err)])] (.d (.int .i64 r)) [(n0, .box 91 [.d (.str a0.s), .d (.int .i64 a0.at_), .d (.int .i64 a0.err)])] :=
  Spec.names [n0] hn rfl rfl (octet_In_Err_0 a0 H)
theorem octet_In_Err_f : hasFunc Tryd.prog 47 Tryd.f47 := ⟨Tryd.func47, rfl, by kernel_rfl⟩

/-! ### logjam/need.many -/
theorem need_many_0 (a0 : T_octet_In) (a1 : Int) {r : Int × Int × T_octet_In} (H : need_many a0 a1 = some r) : LJ.Spec Tryd.prog 32 [.ptr 0 0, .d (.int .u64 a1)] [(0, .box 91 [.d (.str a0.s), .d (.int .i64 a0.at_), .d (.int .i64 a0.err)])] (.tup [.d (.int .i64 r.1), .d (.int .i64 r.2.1)]) [(0, .box 91 [.d (.str r.2.2.s), .d (.int .i64 r.2.2.at_), .d (.int .i64 r.2.2.err)])] := by
  refine LJ.Spec.code Tryd.func32 rfl 16 rfl rfl [0] rfl fun w0 F0 S0 B0 => ?_
  unfold need_many at H
  refine WC.seq ?_
  refine WC.region ?_
  refine WL.run 2 tt_ok sg0 rfl rfl trivial ?_
  refine WL.nil ?_
  refine QT.n ?_
  refine WC.seq ?_
  refine WC.region ?_
  refine WL.run 1 tt_ok sg0 rfl rfl trivial ?_
  obtain ⟨x1, hx1, H⟩ := of_bind H
  refine WL.call [] (octet_In_Num_s 0 rfl _ hx1) octet_In_Num_f rfl rfl ⟨rfl, trivial⟩ rfl rfl rfl ?_
  refine WL.run 1 tt_ok sg0 rfl rfl trivial ?_
  refine WL.nil ?_
  refine QT.n ?_
  refine WC.seq ?_
  refine WC.seq ?_
  refine WC.region ?_
  refine WL.run 3 tt_ok sg0 rfl rfl trivial ?_
  refine WL.nil ?_
  refine QT.n ?_
  refine WC.cond rfl (fun h2 => ?_) (fun h2 => ?_)
  · replace H := of_t H h2
    refine WC.seq ?_
    refine WC.region ?_
    refine WL.run 2 tt_ok sg0 rfl rfl trivial ?_
    refine WL.nil ?_
    refine QT.n ?_
    refine WC.ret ?_
    refine QT.r ?_
    cases H
    exact Ends.auto rfl rfl rfl ⟨rfl, trivial⟩
  replace H := of_f H h2
  refine WC.skip ?_
  refine QT.n ?_
  refine WC.seq ?_
  refine WC.region ?_
  refine WL.run 3 tt_ok sg0 rfl rfl trivial ?_
  obtain ⟨x3, hx3, H⟩ := of_bind H
  refine WL.call [] (octet_In_Err_s 0 rfl _ hx3) octet_In_Err_f rfl rfl ⟨rfl, trivial⟩ rfl rfl rfl ?_
  refine WL.run 2 tt_ok sg0 rfl rfl trivial ?_
  refine WL.nil ?_
  refine QT.n ?_
  refine WC.ret ?_
  cases H
  exact Ends.auto rfl rfl rfl ⟨rfl, trivial⟩
theorem need_many_s (n0 : Nat) (hn : nodupB [n0] = true) (a0 : T_octet_In) (a1 : Int) {r : Int × Int × T_octet_In} (H : need_many a0 a1 = some r) : LJ.Spec Tryd.prog 32 [.ptr n0 0, .d (.int .u64 a1)] [(n0, .box 91 [.d (.str a0.s), .d (.int .i64 a0.at_), .d (.int .i64 a0.err)])] (.tup [.d (.int .i64 r.1), .d (.int .i64 r.2.1)]) [(n0, .box 91 [.d (.str r.2.2.s), .d (.int .i64 r.2.2.at_), .d (.int .i64 r.2.2.err)])] :=
  Spec.names [n0] hn rfl rfl (need_many_0 a0 a1 H)
theorem need_many_f : hasFunc Tryd.prog 32 Tryd.f32 := ⟨Tryd.func32, rfl, by kernel_rfl⟩

/-! ### logjam/need.read -/
theorem need_read_0 (a0 : T_octet_In) {r : T_api_Need × Int × T_octet_In} (H : need_read a0 = some r) : LJ.Spec Tryd.prog 33 [.ptr 0 0] [(0, .box 91 [.d (.str a0.s), .d (.int .i64 a0.at_), .d (.int .i64 a0.err)])] (.tup [.d (.agg [.int .i64 r.1.Kind, .int .i64 r.1.Obj, .int .i64 r.1.N]), .d (.int .i64 r.2.1)]) [(0, .box 91 [.d (.str r.2.2.s), .d (.int .i64 r.2.2.at_), .d (.int .i64 r.2.2.err)])] := by
  refine LJ.Spec.code Tryd.func33 rfl 40 rfl rfl [0] rfl fun w0 F0 S0 B0 => ?_
  unfold need_read at H
  refine WC.seq ?_
  refine WC.region ?_
  refine WL.alloc 102 tt_ok rfl rfl rfl ?_
  refine WL.run 1 tt_ok sg0 rfl rfl trivial ?_
  refine WL.nil ?_
  refine QT.n ?_
  refine WC.seq ?_
  refine WC.region ?_
  refine WL.run 1 tt_ok sg0 rfl rfl trivial ?_
  obtain ⟨x1, hx1, H⟩ := of_bind H
  refine WL.call [] (octet_In_Byte_s 0 rfl _ hx1) octet_In_Byte_f rfl rfl ⟨rfl, trivial⟩ rfl rfl rfl ?_
  refine WL.run 1 tt_ok sg0 rfl rfl trivial ?_
  refine WL.alloc 104 tt_ok rfl rfl rfl ?_
  refine WL.eff 0 tt_ok et_ok eg0 rfl rfl rfl trivial ?_
  refine WL.nil ?_
  refine QT.n ?_
  refine WC.seq ?_
  refine WC.seq ?_
  refine WC.region ?_
  refine WL.run 1 tt_ok sg0 rfl rfl trivial ?_
  obtain ⟨x2, hx2, H⟩ := of_bind H
  refine WL.call [] (octet_In_Err_s 0 rfl _ hx2) octet_In_Err_f rfl rfl ⟨rfl, trivial⟩ rfl rfl rfl ?_
  refine WL.run 1 tt_ok sg0 rfl rfl trivial ?_
  refine WL.nil ?_
  refine QT.n ?_
  refine WC.seq ?_
  refine WC.region ?_
  refine WL.run 2 tt_ok sg0 rfl rfl trivial ?_
  refine WL.nil ?_
  refine QT.n ?_
  refine WC.cond rfl (fun h3 => ?_) (fun h3 => ?_)
  · replace H := of_t H h3
    refine WC.seq ?_
    refine WC.region ?_
    refine WL.run 2 tt_ok sg0 rfl rfl trivial ?_
    refine WL.eff 0 tt_ok et_ok eg0 rfl rfl rfl trivial ?_
    refine WL.run 1 tt_ok sg0 rfl rfl trivial ?_
    refine WL.nil ?_
    refine QT.n ?_
    refine WC.ret ?_
    refine QT.r ?_
    cases H
    exact Ends.autoC tt_ok rfl rfl rfl ⟨rfl, trivial⟩
  replace H := of_f H h3
  refine WC.skip ?_
  refine QT.n ?_
  refine WC.seq ?_
  refine WC.seq ?_
  refine WC.region ?_
  refine WL.run 4 tt_ok sg0 rfl rfl trivial ?_
  refine WL.sect 3 3 false tt_ok sg0 rfl rfl (fun _ => trivial) ?_
  refine WL.run 1 tt_ok sg0 rfl rfl ⟨by first | exact id | exact fun h => by rw [h]; rfl | simp_all, trivial⟩ ?_
  refine WL.nil ?_
  refine QT.n ?_
  refine WC.cond rfl (fun h4 => ?_) (fun h4 => ?_)
  · replace H := of_t H h4
    refine WC.seq ?_
    refine WC.region ?_
    refine WL.run 1 tt_ok sg0 rfl rfl trivial ?_
    refine WL.eff 0 tt_ok et_ok eg0 rfl rfl rfl trivial ?_
    refine WL.run 1 tt_ok sg0 rfl rfl trivial ?_
    refine WL.nil ?_
    refine QT.n ?_
    refine WC.ret ?_
    refine QT.r ?_
    cases H
    exact Ends.autoC tt_ok rfl rfl rfl ⟨rfl, trivial⟩
  replace H := of_f H h4
  refine WC.skip ?_
  refine QT.n ?_
  refine WC.seq ?_
  refine WC.region ?_
  refine WL.run 1 tt_ok sg0 rfl rfl trivial ?_
  obtain ⟨x5, hx5, H⟩ := of_bind H
  refine WL.call [] (octet_In_Num_s 0 rfl _ hx5) octet_In_Num_f rfl rfl ⟨rfl, trivial⟩ rfl rfl rfl ?_
  refine WL.yv (LJ.Y.min rfl rfl rfl) rfl rfl rfl ?_
  refine WL.run 2 tt_ok sg0 rfl rfl trivial ?_
  refine WL.eff 0 tt_ok et_ok eg0 rfl rfl rfl trivial ?_
  refine WL.nil ?_
  refine QT.n ?_
  refine WC.seq ?_
  refine WC.seq ?_
  refine WC.region ?_
  refine WL.run 2 tt_ok sg0 rfl rfl trivial ?_
  obtain ⟨x6, hx6, H⟩ := of_bind H
  refine WL.call [] (need_counted_0 _ hx6) need_counted_f rfl rfl trivial rfl rfl rfl ?_
  refine WL.nil ?_
  refine QT.n ?_
  refine WC.cond rfl (fun h7 => ?_) (fun h7 => ?_)
  · replace H := of_t H h7
    refine WC.region ?_
    refine WL.run 1 tt_ok sg0 rfl rfl trivial ?_
    obtain ⟨x8, hx8, H⟩ := of_bind H
    refine WL.call [] (octet_In_Num_s 0 rfl _ hx8) octet_In_Num_f rfl rfl ⟨rfl, trivial⟩ rfl rfl rfl ?_
    refine WL.yv (LJ.Y.min rfl rfl rfl) rfl rfl rfl ?_
    refine WL.run 2 tt_ok sg0 rfl rfl trivial ?_
    refine WL.eff 0 tt_ok et_ok eg0 rfl rfl rfl trivial ?_
    refine WL.nil ?_
    refine QT.n ?_
    refine WC.seq ?_
    refine WC.heldP (.one 0 true (.one 1 true (.one 2 false (.one 3 false (.one 4 true .done))))) [0, 102, 104] [104] rfl (by kernel_rfl) rfl (by kernel_rfl) rfl rfl (fun _ h => h) rfl rfl rfl (fun _ _ _ h => h) fun FK NK wK K => ?_
    refine WH.run 2 tt_ok rfl rfl rfl rfl trivial ?_
    obtain ⟨x9, hx9, H⟩ := of_bind H
    refine WH.call [] rfl (octet_In_Err_s 0 rfl _ hx9) octet_In_Err_f rfl rfl ⟨rfl, trivial⟩ rfl rfl rfl rfl rfl ?_
    refine WH.eff 0 tt_ok et_ok rfl rfl rfl rfl trivial rfl rfl ?_
    refine WH.run 1 tt_ok rfl rfl rfl rfl trivial ?_
    refine WH.nil rfl ?_
    refine QT.n ?_
    refine WC.ret ?_
    cases H
    exact Ends.autoC tt_ok rfl rfl rfl ⟨rfl, trivial⟩
  replace H := of_f H h7
  refine WC.skip ?_
  refine QT.n ?_
  refine WC.seq ?_
  refine WC.heldP (.one 0 true (.one 1 true (.one 2 false (.one 3 false (.one 4 true .done))))) [0, 102, 104] [104] rfl (by kernel_rfl) rfl (by kernel_rfl) rfl rfl (fun _ h => h) rfl rfl rfl (fun _ _ _ h => h) fun FK NK wK K => ?_
  refine WH.run 2 tt_ok rfl rfl rfl rfl trivial ?_
  obtain ⟨x10, hx10, H⟩ := of_bind H
  refine WH.call [] rfl (octet_In_Err_s 0 rfl _ hx10) octet_In_Err_f rfl rfl ⟨rfl, trivial⟩ rfl rfl rfl rfl rfl ?_
  refine WH.eff 0 tt_ok et_ok rfl rfl rfl rfl trivial rfl rfl ?_
  refine WH.run 1 tt_ok rfl rfl rfl rfl trivial ?_
  refine WH.nil rfl ?_
  refine QT.n ?_
  refine WC.ret ?_
  cases H
  exact Ends.autoC tt_ok rfl rfl rfl ⟨rfl, trivial⟩
theorem need_read_s (n0 : Nat) (hn : nodupB [n0] = true) (a0 : T_octet_In) {r : T_api_Need × Int × T_octet_In} (H : need_read a0 = some r) : LJ.Spec Tryd.prog 33 [.ptr n0 0] [(n0, .box 91 [.d (.str a0.s), .d (.int .i64 a0.at_), .d (.int .i64 a0.err)])] (.tup [.d (.agg [.int .i64 r.1.Kind, .int .i64 r.1.Obj, .int .i64 r.1.N]), .d (.int .i64 r.2.1)]) [(n0, .box 91 [.d (.str r.2.2.s), .d (.int .i64 r.2.2.at_), .d (.int .i64 r.2.2.err)])] :=
  Spec.names [n0] hn rfl rfl (need_read_0 a0 H)
theorem need_read_f : hasFunc Tryd.prog 33 Tryd.f33 := ⟨Tryd.func33, rfl, by kernel_rfl⟩

/-! ### (*logjam/octet.In).Left -/
theorem octet_In_Left_0 (a0 : T_octet_In) {r : Int} (H : octet_In_Left a0 = some r) : LJ.Spec Tryd.prog 34 [.ptr 0 0] [(0, .box 91 [.d (.str a0.s), .d (.int .i64 a0.at_), .d (.int .i64 a0.err)])] (.d (.int .i64 r)) [(0, .box 91 [.d (.str a0.s), .d (.int .i64 a0.at_), .d (.int .i64 a0.err)])] := by
  refine LJ.Spec.code Tryd.func34 rfl 15 rfl rfl [0] rfl fun w0 F0 S0 B0 => ?_
  unfold octet_In_Left at H
  refine WC.seq ?_
  refine WC.region ?_
  refine WL.run 1 tt_ok sg0 rfl rfl trivial ?_
  refine WL.nil ?_
  refine QT.n ?_
  refine WC.seq ?_
  refine WC.seq ?_
  refine WC.region ?_
  refine WL.run 2 tt_ok sg0 rfl rfl trivial ?_
  refine WL.nil ?_
  refine QT.n ?_
  refine WC.cond rfl (fun h => absurd h (by decide)) (fun h => ?_)
  refine WC.skip ?_
  refine QT.n ?_
  refine WC.seq ?_
  refine WC.heldP (.one 0 true (.one 1 true (.one 2 true (.one 3 true (.one 4 true (.one 5 true (.one 6 true (.one 7 true (.one 8 true (.one 9 true (.one 10 true .done))))))))))) [0] [0] rfl (by kernel_rfl) rfl (by kernel_rfl) rfl rfl (fun _ h => h) rfl rfl rfl (fun _ _ _ h => h) fun FK NK wK K => ?_
  refine WH.run 11 tt_ok rfl rfl rfl rfl trivial ?_
  refine WH.nil rfl ?_
  refine QT.n ?_
  refine WC.ret ?_
  cases H
  exact Ends.auto rfl rfl rfl ⟨rfl, trivial⟩
theorem octet_In_Left_s (n0 : Nat) (hn : nodupB [n0] = true) (a0 : T_octet_In) {r : Int} (H : octet_In_Left a0 = some r) : LJ.Spec Tryd.prog 34 [.ptr n0 0] [(n0, .box 91 [.d (.str a0.s), .d (.int .i64 a0.at_), .d (.int .i64 a0.err)])] (.d (.int .i64 r)) [(n0, .box 91 [.d (.str a0.s), .d (.int .i64 a0.at_), .d (.int .i64 a0.err)])] :=
  Spec.names [n0] hn rfl rfl (octet_In_Left_0 a0 H)
theorem octet_In_Left_f : hasFunc Tryd.prog 34 Tryd.f34 := ⟨Tryd.func34, rfl, by kernel_rfl⟩

/-! ### logjam/need.Get -/
theorem need_Get_0 (a0 : List T_api_Decl) (a1 : ByteArray) {r : (List (List T_api_Need)) × Int × Int} (H : need_Get a0 a1 = some r) : LJ.Spec Tryd.prog 16 [.d (slT enc_api_Decl a0), .d (.str a1)] [] (.tup [.d (slT enc_sl_api_Need r.1), .d (.int .i64 r.2.1), .d (.int .i64 r.2.2)]) [] := by
  refine LJ.Spec.code Tryd.func16 rfl 71 rfl rfl [] rfl fun w0 F0 S0 B0 => ?_
  unfold need_Get at H
  refine WC.seq ?_
  refine WC.region ?_
  refine WL.run 3 tt_ok sg0 rfl rfl trivial ?_
  refine WL.nil ?_
  refine QT.n ?_
  refine WC.seq ?_
  refine WC.region ?_
  refine WL.run 1 tt_ok sg0 rfl rfl trivial ?_
  obtain ⟨x1, hx1, H⟩ := of_bind H
  refine WL.call [2180] (octet_Open_s 2180 rfl _ hx1) octet_Open_f rfl rfl trivial rfl rfl rfl ?_
  refine WL.run 1 tt_ok sg0 rfl rfl trivial ?_
  refine WL.nil ?_
  refine QT.n ?_
  refine WC.seq ?_
  refine WC.region ?_
  refine WL.run 1 tt_ok sg0 rfl rfl trivial ?_
  obtain ⟨x2, hx2, H⟩ := of_bind H
  refine WL.call [] (need_many_s 2180 rfl _ _ hx2) need_many_f rfl rfl ⟨rfl, trivial⟩ rfl rfl rfl ?_
  refine WL.run 5 tt_ok sg0 rfl rfl trivial ?_
  refine WL.nil ?_
  refine QT.n ?_
  refine WC.seq ?_
  refine WC.seq ?_
  refine WC.region ?_
  refine WL.run 2 tt_ok sg0 rfl rfl trivial ?_
  refine WL.nil ?_
  refine QT.n ?_
  refine WC.cond rfl (fun h3 => ?_) (fun h3 => ?_)
  · replace H := of_t H h3
    refine WC.seq ?_
    refine WC.region ?_
    refine WL.run 4 tt_ok sg0 rfl rfl trivial ?_
    refine WL.nil ?_
    refine QT.n ?_
    refine WC.nilT 4 enc_sl_api_Need rfl ?_
    refine WC.ret ?_
    refine QT.r ?_
    cases H
    exact Ends.auto rfl rfl rfl trivial
  replace H := of_f H h3
  refine WC.skip ?_
  refine QT.n ?_
  refine WC.seq ?_
  refine WC.region ?_
  refine WL.run 1 tt_ok sg0 rfl rfl trivial ?_
  refine WL.nil ?_
  refine QT.n ?_
  refine WC.seq ?_
  refine WC.seq ?_
  refine WC.region ?_
  refine WL.run 2 tt_ok sg0 rfl rfl trivial ?_
  refine WL.nil ?_
  refine QT.n ?_
  refine WC.block ?_
  refine WC.nilrow (t := 10) 1054 51 1 rfl rfl rfl ?_
  refine WC.loop (ι := {x : Nat × (Int × (List (List T_api_Need)) × ByteArray × Int × Int) // need_Get_l6 a0 a1 x2 x.1 x.2 = some r}) (fun x => [(0, .d (slT enc_api_Decl a0)), (1, .d (.str a1)), (7, .ptr 2180 0), (10, .own 1054), (27, .d (.int .i64 x2.1)), (28, .d (.int .i64 x.1.2.1))]) (fun x => [(1054, .row 51 1 (x.1.2.2.1.map enc_sl_api_Need)), (2180, .box 91 [.d (.str x.1.2.2.2.1), .d (.int .i64 x.1.2.2.2.2.1), .d (.int .i64 x.1.2.2.2.2.2)])]) (fun x => x.1.1) ⟨(fuel, (0, ([] : List (List T_api_Need)), x2.2.2.s, x2.2.2.at_, x2.2.2.err)), H⟩ (Less.mk' ⟨rfl, rfl, rfl, rfl, rfl, rfl, trivial⟩ ⟨rfl, rfl, trivial⟩) fun x => ?_
  obtain ⟨⟨k6, s5⟩, H⟩ := x
  rcases k6 with _ | k6
  · exact of_none H
  rw [need_Get_l6] at H
  refine WC.seq ?_
  refine WC.region ?_
  refine WL.run 1 tt_ok sg0 rfl rfl trivial ?_
  refine WL.nil ?_
  refine QT.n ?_
  refine WC.seq ?_
  refine WC.cond rfl (fun h7 => ?_) (fun h7 => ?_)
  · replace H := of_t H h7
    refine WC.skip ?_
    refine QT.n ?_
    obtain ⟨K8, hK8, H⟩ := of_withK H
    refine WC.cut (fun E m => ∃ s9 : (List (List T_api_Need)) × ByteArray × Int × Int, K8 s9 = some r ∧ LessW E m [(0, .d (slT enc_api_Decl a0)), (1, .d (.str a1)), (7, .ptr 2180 0), (10, .own 1054), (27, .d (.int .i64 x2.1)), (28, .d (.int .i64 s5.1))] [(1054, .row 51 1 (s9.1.map enc_sl_api_Need)), (2180, .box 91 [.d (.str s9.2.1), .d (.int .i64 s9.2.2.1), .d (.int .i64 s9.2.2.2)])]) ?_ ?_
    · refine WC.block ?_
      refine WC.seq ?_
      refine WC.region ?_
      refine WL.run 1 tt_ok sg0 rfl rfl trivial ?_
      obtain ⟨x10, hx10, H⟩ := of_bind H
      refine WL.call [] (need_many_s 2180 rfl _ _ hx10) need_many_f rfl rfl ⟨rfl, trivial⟩ rfl rfl rfl ?_
      refine WL.run 5 tt_ok sg0 rfl rfl trivial ?_
      refine WL.nil ?_
      refine QT.n ?_
      refine WC.seq ?_
      refine WC.seq ?_
      refine WC.region ?_
      refine WL.run 2 tt_ok sg0 rfl rfl trivial ?_
      refine WL.nil ?_
      refine QT.n ?_
      refine WC.cond rfl (fun h11 => ?_) (fun h11 => ?_)
      · replace H := of_t H h11
        refine WC.seq ?_
        refine WC.region ?_
        refine WL.run 4 tt_ok sg0 rfl rfl trivial ?_
        refine WL.nil ?_
        refine QT.n ?_
        refine WC.nilT 4 enc_sl_api_Need rfl ?_
        refine WC.ret ?_
        refine QT.r (QB.r (QT.r (QT.r (QB.r (QT.r ?_)))))
        cases H
        exact Ends.auto rfl rfl rfl trivial
      replace H := of_f H h11
      refine WC.skip ?_
      refine QT.n ?_
      refine WC.seq ?_
      refine WC.region ?_
      refine WL.run 1 tt_ok sg0 rfl rfl trivial ?_
      refine WL.nil ?_
      refine QT.n ?_
      refine WC.seq ?_
      refine WC.seq ?_
      refine WC.region ?_
      refine WL.run 2 tt_ok sg0 rfl rfl trivial ?_
      refine WL.nil ?_
      refine QT.n ?_
      refine WC.block ?_
      refine WC.nilrow (t := 13) 1049 50 3 rfl rfl rfl ?_
      refine WC.loop (ι := {x : Nat × (Int × (List T_api_Need) × ByteArray × Int × Int) // need_Get_l14 s5 K8 x10 x.1 x.2 = some r}) (fun x => [(0, .d (slT enc_api_Decl a0)), (1, .d (.str a1)), (7, .ptr 2180 0), (10, .own 1054), (13, .own 1049), (27, .d (.int .i64 x2.1)), (28, .d (.int .i64 s5.1)), (38, .d (.int .i64 x10.1)), (39, .d (.int .i64 x.1.2.1))]) (fun x => [(1049, .row 50 3 (x.1.2.2.1.map enc_api_Need)), (1054, .row 51 1 (s5.2.1.map enc_sl_api_Need)), (2180, .box 91 [.d (.str x.1.2.2.2.1), .d (.int .i64 x.1.2.2.2.2.1), .d (.int .i64 x.1.2.2.2.2.2)])]) (fun x => x.1.1) ⟨(fuel, (0, ([] : List T_api_Need), x10.2.2.s, x10.2.2.at_, x10.2.2.err)), H⟩ (Less.mk' ⟨rfl, rfl, rfl, rfl, rfl, rfl, rfl, rfl, rfl, trivial⟩ ⟨rfl, rfl, rfl, trivial⟩) fun x => ?_
      obtain ⟨⟨k14, s13⟩, H⟩ := x
      rcases k14 with _ | k14
      · exact of_none H
      rw [need_Get_l14] at H
      refine WC.seq ?_
      refine WC.region ?_
      refine WL.run 1 tt_ok sg0 rfl rfl trivial ?_
      refine WL.nil ?_
      refine QT.n ?_
      refine WC.seq ?_
      refine WC.cond rfl (fun h15 => ?_) (fun h15 => ?_)
      · replace H := of_t H h15
        refine WC.skip ?_
        refine QT.n ?_
        refine WC.seq ?_
        refine WC.block ?_
        refine WC.seq ?_
        refine WC.region ?_
        refine WL.run 1 tt_ok sg0 rfl rfl trivial ?_
        obtain ⟨x16, hx16, H⟩ := of_bind H
        refine WL.call [] (need_read_s 2180 rfl _ hx16) need_read_f rfl rfl ⟨rfl, trivial⟩ rfl rfl rfl ?_
        refine WL.run 3 tt_ok sg0 rfl rfl trivial ?_
        refine WL.alloc 114 tt_ok rfl rfl rfl ?_
        refine WL.eff 0 tt_ok et_ok eg0 rfl rfl rfl trivial ?_
        refine WL.run 1 tt_ok sg0 rfl rfl trivial ?_
        refine WL.nil ?_
        refine QT.n ?_
        refine WC.seq ?_
        refine WC.seq ?_
        refine WC.region ?_
        refine WL.run 2 tt_ok sg0 rfl rfl trivial ?_
        refine WL.nil ?_
        refine QT.n ?_
        refine WC.cond rfl (fun h17 => ?_) (fun h17 => ?_)
        · replace H := of_t H h17
          refine WC.seq ?_
          refine WC.region ?_
          refine WL.run 4 tt_ok sg0 rfl rfl trivial ?_
          refine WL.nil ?_
          refine QT.n ?_
          refine WC.nilT 4 enc_sl_api_Need rfl ?_
          refine WC.ret ?_
          refine QT.r (QB.r (QT.r (QT.r (QB.r (QT.r (QB.r (QT.r (QT.r (QB.r (QT.r ?_))))))))))
          cases H
          exact Ends.auto rfl rfl rfl trivial
        replace H := of_f H h17
        refine WC.skip ?_
        refine QT.n ?_
        refine WC.region ?_
        refine WL.run 2 tt_ok sg0 rfl rfl trivial ?_
        refine WL.eff 151 tt_ok et_ok eg0 rfl rfl rfl trivial ?_
        refine WL.freezeT 151 enc_api_Need ([x16.1] : List T_api_Need) rfl rfl rfl rfl ?_
        obtain ⟨g18, H⟩ := of_need H
        refine WL.appT enc_api_Need s13.2.1 ([x16.1] : List T_api_Need) tt_ok et_ok rfl rfl (fun _ => rfl) (fun _ => rfl) rfl rfl rfl rfl (nCap_ok g18) rfl rfl rfl rfl rfl ?_
        refine WL.run 1 tt_ok sg0 rfl rfl trivial ?_
        refine WL.nil ?_
        refine QB.n (QT.n ?_)
        refine WC.region ?_
        refine WL.run 2 tt_ok sg0 rfl rfl trivial ?_
        refine WL.nil ?_
        refine QT.n ?_
        exact ⟨⟨(k14, (IntKind.i64.wrap (s13.1 + 1), s13.2.1 ++ ([x16.1] : List T_api_Need), x16.2.2.s, x16.2.2.at_, x16.2.2.err)), H⟩, Nat.lt_succ_self _, Less.mk' ⟨rfl, rfl, rfl, rfl, rfl, rfl, rfl, rfl, rfl, trivial⟩ ⟨rfl, rfl, rfl, trivial⟩⟩
      replace H := of_f H h15
      refine WC.exit ?_
      refine QT.x (QT.x (QB.hit (QT.n ?_)))
      refine WC.region ?_
      refine WL.run 2 tt_ok sg0 rfl rfl trivial ?_
      refine WL.freezeT 1049 enc_api_Need s13.2.1 rfl rfl rfl rfl ?_
      refine WL.eff 156 tt_ok et_ok eg0 rfl rfl rfl trivial ?_
      refine WL.freezeT 156 enc_sl_api_Need ([s13.2.1] : List (List T_api_Need)) rfl rfl rfl rfl ?_
      obtain ⟨g19, H⟩ := of_need H
      refine WL.appT enc_sl_api_Need s5.2.1 ([s13.2.1] : List (List T_api_Need)) tt_ok et_ok rfl rfl (fun _ => rfl) (fun _ => rfl) rfl rfl rfl rfl (nCap_ok g19) rfl rfl rfl rfl rfl ?_
      refine WL.run 1 tt_ok sg0 rfl rfl trivial ?_
      refine WL.nil ?_
      refine QB.n (QT.n ?_)
      exact ⟨(s5.2.1 ++ ([s13.2.1] : List (List T_api_Need)), s13.2.2.1, s13.2.2.2.1, s13.2.2.2.2), H, LessW.mk' ⟨AVle.of rfl, AVle.of rfl, AVle.of rfl, AVle.of rfl, AVle.of rfl, AVle.of rfl, trivial⟩ ⟨rfl, rfl, trivial⟩⟩
    · rintro E m ⟨s9, H, hl⟩
      refine WC.lessW hl ?_
      replace H := (hK8 _).symm.trans H
      try dsimp only at H
      refine WC.region ?_
      refine WL.run 2 tt_ok sg0 rfl rfl trivial ?_
      refine WL.nil ?_
      refine QT.n ?_
      exact ⟨⟨(k6, (IntKind.i64.wrap (s5.1 + 1), s9.1, s9.2.1, s9.2.2.1, s9.2.2.2)), H⟩, Nat.lt_succ_self _, Less.mk' ⟨rfl, rfl, rfl, rfl, rfl, rfl, trivial⟩ ⟨rfl, rfl, trivial⟩⟩
  replace H := of_f H h7
  refine WC.exit ?_
  refine QT.x (QT.x (QB.hit (QT.n ?_)))
  refine WC.seq ?_
  refine WC.seq ?_
  refine WC.region ?_
  refine WL.run 2 tt_ok sg0 rfl rfl trivial ?_
  refine WL.freezeT 1054 enc_sl_api_Need s5.2.1 rfl rfl rfl rfl ?_
  obtain ⟨x20, hx20, H⟩ := of_bind H
  refine WL.call [] (need_Check_0 _ _ hx20) need_Check_f rfl rfl trivial rfl rfl rfl ?_
  refine WL.run 1 tt_ok sg0 rfl rfl trivial ?_
  refine WL.nil ?_
  refine QT.n ?_
  refine WC.seq ?_
  refine WC.region ?_
  refine WL.run 2 tt_ok sg0 rfl rfl trivial ?_
  refine WL.nil ?_
  refine QT.n ?_
  refine WC.cond rfl (fun h21 => ?_) (fun h21 => ?_)
  · replace H := of_t H h21
    refine WC.seq ?_
    refine WC.region ?_
    refine WL.run 4 tt_ok sg0 rfl rfl trivial ?_
    refine WL.nil ?_
    refine QT.n ?_
    refine WC.nilT 4 enc_sl_api_Need rfl ?_
    refine WC.ret ?_
    refine QT.r ?_
    cases H
    exact Ends.auto rfl rfl rfl trivial
  replace H := of_f H h21
  refine WC.skip ?_
  refine QT.n ?_
  refine WC.seq ?_
  refine WC.region ?_
  refine WL.run 4 tt_ok sg0 rfl rfl trivial ?_
  obtain ⟨x22, hx22, H⟩ := of_bind H
  refine WL.call [] (octet_In_Left_s 2180 rfl _ hx22) octet_In_Left_f rfl rfl ⟨rfl, trivial⟩ rfl rfl rfl ?_
  refine WL.run 4 tt_ok sg0 rfl rfl trivial ?_
  refine WL.nil ?_
  refine QT.n ?_
  refine WC.ret ?_
  cases H
  exact Ends.auto rfl rfl rfl trivial
theorem need_Get_f : hasFunc Tryd.prog 16 Tryd.f16 := ⟨Tryd.func16, rfl, by kernel_rfl⟩

/-! ### logjam/logjamref09.Same -/
theorem ref09_Same_0 (a0 : List (List T_api_Need)) (a1 : List (List T_api_Need)) {r : Bool} (H : ref09_Same a0 a1 = some r) : LJ.Spec Tryd.prog 18 [.d (slT enc_sl_api_Need a0), .d (slT enc_sl_api_Need a1)] [] (.d (.bool r)) [] := by
  refine LJ.Spec.code Tryd.func18 rfl 53 rfl rfl [] rfl fun w0 F0 S0 B0 => ?_
  unfold ref09_Same at H
  refine WC.seq ?_
  refine WC.region ?_
  refine WL.run 1 tt_ok sg0 rfl rfl trivial ?_
  refine WL.nil ?_
  refine QT.n ?_
  refine WC.seq ?_
  refine WC.seq ?_
  refine WC.region ?_
  refine WL.run 5 tt_ok sg0 rfl rfl trivial ?_
  refine WL.nil ?_
  refine QT.n ?_
  refine WC.cond rfl (fun h1 => ?_) (fun h1 => ?_)
  · replace H := of_t H h1
    refine WC.seq ?_
    refine WC.region ?_
    refine WL.run 1 tt_ok sg0 rfl rfl trivial ?_
    refine WL.nil ?_
    refine QT.n ?_
    refine WC.ret ?_
    refine QT.r ?_
    cases H
    exact Ends.auto rfl rfl rfl trivial
  replace H := of_f H h1
  refine WC.skip ?_
  refine QT.n ?_
  refine WC.seq ?_
  refine WC.seq ?_
  refine WC.region ?_
  refine WL.run 1 tt_ok sg0 rfl rfl trivial ?_
  refine WL.nil ?_
  refine QT.n ?_
  refine WC.block ?_
  refine WC.loop (ι := {x : Nat × Int // ref09_Same_l3 a0 a1 x.1 x.2 = some r}) (fun x => [(0, .d (slT enc_sl_api_Need a0)), (1, .d (slT enc_sl_api_Need a1)), (5, .d (.int .i64 x.1.2))]) (fun x => []) (fun x => x.1.1) ⟨(fuel, 0), H⟩ (Less.mk' ⟨rfl, rfl, rfl, trivial⟩ trivial) fun x => ?_
  obtain ⟨⟨k3, s2⟩, H⟩ := x
  rcases k3 with _ | k3
  · exact of_none H
  rw [ref09_Same_l3] at H
  refine WC.seq ?_
  refine WC.seq ?_
  refine WC.region ?_
  refine WL.run 4 tt_ok sg0 rfl rfl trivial ?_
  refine WL.nil ?_
  refine QT.n ?_
  refine WC.cond rfl (fun h4 => ?_) (fun h4 => ?_)
  · replace H := of_t H h4
    refine WC.skip ?_
    refine QT.n ?_
    obtain ⟨K5, hK5, H⟩ := of_withK H
    refine WC.cut (fun E m => ∃ s6 : Unit, K5 s6 = some r ∧ LessW E m [(0, .d (slT enc_sl_api_Need a0)), (1, .d (slT enc_sl_api_Need a1)), (5, .d (.int .i64 s2))] []) ?_ ?_
    · refine WC.block ?_
      refine WC.seq ?_
      refine WC.seq ?_
      refine WC.heldP (.one 0 true (.one 1 true (.one 2 true (.one 3 true (.one 4 true (.one 5 true (.one 6 true (.one 7 true (.one 8 true (.one 9 true (.one 10 true .done))))))))))) [] [] rfl (by kernel_rfl) rfl (by kernel_rfl) rfl rfl (fun _ h => h) rfl rfl rfl (fun _ _ _ h => h) fun FK NK wK K => ?_
      obtain ⟨g7, H⟩ := of_need H
      obtain ⟨g8, H⟩ := of_need H
      refine WH.run 11 tt_ok rfl rfl rfl rfl ⟨⟨(nIn_ok g7).1, (nIn_ok g7).2, rfl⟩, ⟨(nIn_ok g8).1, (nIn_ok g8).2, rfl⟩, trivial⟩ ?_
      refine WH.nil rfl ?_
      refine QT.n ?_
      refine WC.cond rfl (fun h9 => ?_) (fun h9 => ?_)
      · replace H := of_t H h9
        refine WC.seq ?_
        refine WC.region ?_
        refine WL.run 1 tt_ok sg0 rfl rfl trivial ?_
        refine WL.nil ?_
        refine QT.n ?_
        refine WC.ret ?_
        refine QT.r (QB.r (QT.r (QT.r (QB.r (QT.r ?_)))))
        cases H
        exact Ends.auto rfl rfl rfl trivial
      replace H := of_f H h9
      refine WC.skip ?_
      refine QT.n ?_
      refine WC.seq ?_
      refine WC.region ?_
      refine WL.run 1 tt_ok sg0 rfl rfl trivial ?_
      refine WL.nil ?_
      refine QT.n ?_
      refine WC.block ?_
      refine WC.loop (ι := {x : Nat × Int // ref09_Same_l11 a0 a1 s2 K5 x.1 x.2 = some r}) (fun x => [(0, .d (slT enc_sl_api_Need a0)), (1, .d (slT enc_sl_api_Need a1)), (5, .d (.int .i64 s2)), (6, .d (.int .i64 x.1.2))]) (fun x => []) (fun x => x.1.1) ⟨(fuel, 0), H⟩ (Less.mk' ⟨rfl, rfl, rfl, rfl, trivial⟩ trivial) fun x => ?_
      obtain ⟨⟨k11, s10⟩, H⟩ := x
      rcases k11 with _ | k11
      · exact of_none H
      rw [ref09_Same_l11] at H
      refine WC.seq ?_
      refine WC.seq ?_
      refine WC.region ?_
      obtain ⟨g12, H⟩ := of_need H
      refine WL.run 7 tt_ok sg0 rfl rfl ⟨⟨(nIn_ok g12).1, (nIn_ok g12).2, rfl⟩, trivial⟩ ?_
      refine WL.nil ?_
      refine QT.n ?_
      refine WC.cond rfl (fun h13 => ?_) (fun h13 => ?_)
      · replace H := of_t H h13
        refine WC.skip ?_
        refine QT.n ?_
        refine WC.seq ?_
        refine WC.block ?_
        refine WC.seq ?_
        refine WC.heldP (.one 0 true (.one 1 true (.one 2 true (.one 3 true (.one 4 true (.one 5 true (.one 6 true (.one 7 true (.one 8 true (.one 9 true (.one 10 true (.one 11 true (.one 12 true (.one 13 true (.one 14 true .done))))))))))))))) [] [] rfl (by kernel_rfl) rfl (by kernel_rfl) rfl rfl (fun _ h => h) rfl rfl rfl (fun _ _ _ h => h) fun FK NK wK K => ?_
        obtain ⟨g14, H⟩ := of_need H
        obtain ⟨g15, H⟩ := of_need H
        obtain ⟨g16, H⟩ := of_need H
        obtain ⟨g17, H⟩ := of_need H
        refine WH.run 14 tt_ok rfl rfl rfl rfl ⟨⟨(nIn_ok g14).1, (nIn_ok g14).2, rfl⟩, ⟨(nIn_ok g15).1, (nIn_ok g15).2, rfl⟩, ⟨(nIn_ok g16).1, (nIn_ok g16).2, rfl⟩, ⟨(nIn_ok g17).1, (nIn_ok g17).2, rfl⟩, trivial⟩ ?_
        refine WH.yv rfl (LJ.Y.structEq .neq (.inr rfl) rfl rfl rfl (by kernel_rfl) rfl) rfl rfl rfl ?_
        refine WH.nil rfl ?_
        refine QT.n ?_
        refine WC.cond rfl (fun h18 => ?_) (fun h18 => ?_)
        · replace H := of_t H h18
          refine WC.seq ?_
          refine WC.region ?_
          refine WL.run 1 tt_ok sg0 rfl rfl trivial ?_
          refine WL.nil ?_
          refine QT.n ?_
          refine WC.ret ?_
          refine QB.r (QT.r (QT.r (QB.r (QB.r (QT.r (QT.r (QB.r (QT.r ?_))))))))
          cases H
          exact Ends.auto rfl rfl rfl trivial
        replace H := of_f H h18
        refine WC.skip ?_
        refine QB.n (QT.n ?_)
        refine WC.region ?_
        refine WL.run 3 tt_ok sg0 rfl rfl trivial ?_
        refine WL.nil ?_
        refine QT.n ?_
        exact ⟨⟨(k11, IntKind.i64.wrap (s10 + 1)), H⟩, Nat.lt_succ_self _, Less.mk' ⟨rfl, rfl, rfl, rfl, trivial⟩ trivial⟩
      replace H := of_f H h13
      refine WC.exit ?_
      refine QT.x (QT.x (QB.hit (QB.n (QT.n ?_))))
      exact ⟨Unit.unit, H, LessW.mk' ⟨AVle.of rfl, AVle.of rfl, AVle.of rfl, trivial⟩ trivial⟩
    · rintro E m ⟨s6, H, hl⟩
      refine WC.lessW hl ?_
      replace H := (hK5 _).symm.trans H
      try dsimp only at H
      refine WC.region ?_
      refine WL.run 3 tt_ok sg0 rfl rfl trivial ?_
      refine WL.nil ?_
      refine QT.n ?_
      exact ⟨⟨(k3, IntKind.i64.wrap (s2 + 1)), H⟩, Nat.lt_succ_self _, Less.mk' ⟨rfl, rfl, rfl, trivial⟩ trivial⟩
  replace H := of_f H h4
  refine WC.exit ?_
  refine QT.x (QT.x (QB.hit (QT.n ?_)))
  refine WC.seq ?_
  refine WC.region ?_
  refine WL.run 1 tt_ok sg0 rfl rfl trivial ?_
  refine WL.nil ?_
  refine QT.n ?_
  refine WC.ret ?_
  cases H
  exact Ends.auto rfl rfl rfl trivial
theorem ref09_Same_f : hasFunc Tryd.prog 18 Tryd.f18 := ⟨Tryd.func18, rfl, by kernel_rfl⟩

/-! ### (*strings.Builder).copyCheck -/
theorem strings_Builder_copyCheck_0 (a0 : T_strings_Builder) {r : T_strings_Builder} (H : strings_Builder_copyCheck a0 = some r) : LJ.Spec Tryd.prog 51 [.ptr 0 0] [(0, .box 76 [.optp a0.addr 0 0, .own 1]), (1, .row 5 1 (rowOf a0.buf))] (.tup []) [(1, .row 5 1 (rowOf r.buf)), (0, .box 76 [.optp r.addr 0 0, .own 1])] := by
  refine LJ.Spec.code Tryd.func51 rfl 20 rfl rfl [0] rfl fun w0 F0 S0 B0 => ?_
  unfold strings_Builder_copyCheck at H
  refine WC.seq ?_
  refine WC.region ?_
  refine WL.run 4 tt_ok sg0 rfl rfl trivial ?_
  refine WL.yv (LJ.Y.oeql rfl rfl rfl (by kernel_rfl)) rfl rfl rfl ?_
  refine WL.nil ?_
  refine QT.n ?_
  refine WC.cond rfl (fun h1 => ?_) (fun h1 => ?_)
  · replace H := of_t H h1
    refine WC.region ?_
    refine WL.run 2 tt_ok sg0 rfl rfl trivial ?_
    refine WL.yv (LJ.Y.toUns 76 rfl rfl rfl rfl (by kernel_rfl) (by kernel_rfl) (by kernel_rfl)) rfl rfl rfl ?_
    refine WL.yv (LJ.Y.noEsc rfl rfl Tryd.func63 (by kernel_rfl) (by kernel_rfl) (by kernel_rfl) (by kernel_rfl)) rfl rfl rfl ?_
    refine WL.yv (LJ.Y.fromUns 76 rfl rfl rfl (by kernel_rfl) (by kernel_rfl) (by kernel_rfl) (by kernel_rfl)) rfl rfl rfl ?_
    refine WL.run 2 tt_ok sg0 rfl rfl trivial ?_
    refine WL.eff 0 tt_ok et_ok eg0 rfl rfl rfl trivial ?_
    refine WL.nil ?_
    cases H
    exact Ends.auton rfl rfl rfl ⟨rfl, rfl, trivial⟩
  replace H := of_f H h1
  refine WC.seq ?_
  refine WC.region ?_
  refine WL.run 5 tt_ok sg0 rfl rfl trivial ?_
  refine WL.yv (LJ.Y.oneq rfl rfl rfl (by kernel_rfl) (by kernel_rfl)) rfl rfl rfl ?_
  refine WL.nil ?_
  refine QT.n ?_
  refine WC.cond rfl (fun h2 => ?_) (fun h2 => ?_)
  · replace H := of_t H h2
    exact of_none H
  replace H := of_f H h2
  refine WC.skip ?_
  cases H
  exact Ends.auton rfl rfl rfl ⟨rfl, rfl, trivial⟩
theorem strings_Builder_copyCheck_s (n0 n1 : Nat) (hn : nodupB [n0, n1] = true) (a0 : T_strings_Builder) {r : T_strings_Builder} (H : strings_Builder_copyCheck a0 = some r) : LJ.Spec Tryd.prog 51 [.ptr n0 0] [(n0, .box 76 [.optp a0.addr n0 0, .own n1]), (n1, .row 5 1 (rowOf a0.buf))] (.tup []) [(n1, .row 5 1 (rowOf r.buf)), (n0, .box 76 [.optp r.addr n0 0, .own n1])] :=
  Spec.names [n0, n1] hn rfl rfl (strings_Builder_copyCheck_0 a0 H)
theorem strings_Builder_copyCheck_f : hasFunc Tryd.prog 51 Tryd.f51 := ⟨Tryd.func51, rfl, by kernel_rfl⟩

/-! ### (*strings.Builder).WriteString -/
theorem strings_Builder_WriteString_0 (a0 : T_strings_Builder) (a1 : ByteArray) {r : Int × Unit × T_strings_Builder} (H : strings_Builder_WriteString a0 a1 = some r) : LJ.Spec Tryd.prog 36 [.ptr 0 0, .d (.str a1)] [(0, .box 76 [.optp a0.addr 0 0, .own 1]), (1, .row 5 1 (rowOf a0.buf))] (.tup [.d (.int .i64 r.1), .d (.nili)]) [(1, .row 5 1 (rowOf r.2.2.buf)), (0, .box 76 [.optp r.2.2.addr 0 0, .own 1])] := by
  refine LJ.Spec.code Tryd.func36 rfl 19 rfl rfl [0] rfl fun w0 F0 S0 B0 => ?_
  unfold strings_Builder_WriteString at H
  refine WC.seq ?_
  refine WC.region ?_
  refine WL.run 2 tt_ok sg0 rfl rfl trivial ?_
  refine WL.nil ?_
  refine QT.n ?_
  refine WC.seq ?_
  refine WC.region ?_
  refine WL.run 1 tt_ok sg0 rfl rfl trivial ?_
  obtain ⟨x1, hx1, H⟩ := of_bind H
  refine WL.call [1] (strings_Builder_copyCheck_s 0 1 rfl _ hx1) strings_Builder_copyCheck_f rfl rfl ⟨rfl, rfl, trivial⟩ rfl rfl rfl ?_
  refine WL.nil ?_
  refine QT.n ?_
  refine WC.seq ?_
  refine WC.region ?_
  refine WL.run 6 tt_ok sg0 rfl rfl trivial ?_
  obtain ⟨g2, H⟩ := of_need H
  refine WL.apps tt_ok eb_ok rfl rfl rfl (apps_ok (nCap_ok g2)) ?_
  refine WL.row 1 (rowOf (x1.buf ++ a1)) rfl (rowOf_append _ _).symm rfl ?_
  refine WL.run 2 tt_ok sg0 rfl rfl trivial ?_
  refine WL.eff 0 tt_ok et_ok eg0 rfl rfl rfl trivial ?_
  refine WL.nil ?_
  refine QT.n ?_
  refine WC.seq ?_
  refine WC.region ?_
  refine WL.run 4 tt_ok sg0 rfl rfl trivial ?_
  refine WL.nil ?_
  refine QT.n ?_
  refine WC.ret ?_
  cases H
  exact Ends.auto rfl rfl rfl ⟨rfl, rfl, trivial⟩
theorem strings_Builder_WriteString_s (n0 n1 : Nat) (hn : nodupB [n0, n1] = true) (a0 : T_strings_Builder) (a1 : ByteArray) {r : Int × Unit × T_strings_Builder} (H : strings_Builder_WriteString a0 a1 = some r) : LJ.Spec Tryd.prog 36 [.ptr n0 0, .d (.str a1)] [(n0, .box 76 [.optp a0.addr n0 0, .own n1]), (n1, .row 5 1 (rowOf a0.buf))] (.tup [.d (.int .i64 r.1), .d (.nili)]) [(n1, .row 5 1 (rowOf r.2.2.buf)), (n0, .box 76 [.optp r.2.2.addr n0 0, .own n1])] :=
  Spec.names [n0, n1] hn rfl rfl (strings_Builder_WriteString_0 a0 a1 H)
theorem strings_Builder_WriteString_f : hasFunc Tryd.prog 36 Tryd.f36 := ⟨Tryd.func36, rfl, by kernel_rfl⟩

/-! ### logjam/need.name -/
theorem need_name_0 (a0 : Int) {r : ByteArray} (H : need_name a0 = some r) : LJ.Spec Tryd.prog 37 [.d (.int .i64 a0)] [] (.d (.str r)) [] := by
  refine LJ.Spec.code Tryd.func37 rfl 14 rfl rfl [] rfl fun w0 F0 S0 B0 => ?_
  unfold need_name at H
  refine WC.seq ?_
  refine WC.region ?_
  refine WL.run 1 tt_ok sg0 rfl rfl trivial ?_
  refine WL.nil ?_
  refine QT.n ?_
  refine WC.seq ?_
  refine WC.seq ?_
  refine WC.region ?_
  refine WL.run 1 tt_ok sg0 rfl rfl trivial ?_
  refine WL.nil ?_
  refine QT.n ?_
  refine WC.block ?_
  refine WC.seq ?_
  refine WC.region ?_
  refine WL.run 2 tt_ok sg0 rfl rfl trivial ?_
  refine WL.nil ?_
  refine QT.n ?_
  refine WC.cond rfl (fun h1 => ?_) (fun h1 => ?_)
  · replace H := of_t H h1
    refine WC.seq ?_
    refine WC.region ?_
    refine WL.run 1 tt_ok sg0 rfl rfl trivial ?_
    refine WL.nil ?_
    refine QT.n ?_
    refine WC.ret ?_
    refine QB.r (QT.r ?_)
    cases H
    exact Ends.auto rfl rfl rfl trivial
  replace H := of_f H h1
  refine WC.seq ?_
  refine WC.region ?_
  refine WL.run 2 tt_ok sg0 rfl rfl trivial ?_
  refine WL.nil ?_
  refine QT.n ?_
  refine WC.cond rfl (fun h2 => ?_) (fun h2 => ?_)
  · replace H := of_t H h2
    refine WC.seq ?_
    refine WC.region ?_
    refine WL.run 1 tt_ok sg0 rfl rfl trivial ?_
    refine WL.nil ?_
    refine QT.n ?_
    refine WC.ret ?_
    refine QB.r (QT.r ?_)
    cases H
    exact Ends.auto rfl rfl rfl trivial
  replace H := of_f H h2
  refine WC.seq ?_
  refine WC.region ?_
  refine WL.run 2 tt_ok sg0 rfl rfl trivial ?_
  refine WL.nil ?_
  refine QT.n ?_
  refine WC.cond rfl (fun h3 => ?_) (fun h3 => ?_)
  · replace H := of_t H h3
    refine WC.seq ?_
    refine WC.region ?_
    refine WL.run 1 tt_ok sg0 rfl rfl trivial ?_
    refine WL.nil ?_
    refine QT.n ?_
    refine WC.ret ?_
    refine QB.r (QT.r ?_)
    cases H
    exact Ends.auto rfl rfl rfl trivial
  replace H := of_f H h3
  refine WC.seq ?_
  refine WC.region ?_
  refine WL.run 2 tt_ok sg0 rfl rfl trivial ?_
  refine WL.nil ?_
  refine QT.n ?_
  refine WC.cond rfl (fun h4 => ?_) (fun h4 => ?_)
  · replace H := of_t H h4
    refine WC.seq ?_
    refine WC.region ?_
    refine WL.run 1 tt_ok sg0 rfl rfl trivial ?_
    refine WL.nil ?_
    refine QT.n ?_
    refine WC.ret ?_
    refine QB.r (QT.r ?_)
    cases H
    exact Ends.auto rfl rfl rfl trivial
  replace H := of_f H h4
  refine WC.seq ?_
  refine WC.region ?_
  refine WL.run 2 tt_ok sg0 rfl rfl trivial ?_
  refine WL.nil ?_
  refine QT.n ?_
  refine WC.cond rfl (fun h5 => ?_) (fun h5 => ?_)
  · replace H := of_t H h5
    refine WC.seq ?_
    refine WC.region ?_
    refine WL.run 1 tt_ok sg0 rfl rfl trivial ?_
    refine WL.nil ?_
    refine QT.n ?_
    refine WC.ret ?_
    refine QB.r (QT.r ?_)
    cases H
    exact Ends.auto rfl rfl rfl trivial
  replace H := of_f H h5
  refine WC.skip ?_
  refine QB.n (QT.n ?_)
  refine WC.seq ?_
  refine WC.region ?_
  refine WL.run 1 tt_ok sg0 rfl rfl trivial ?_
  refine WL.nil ?_
  refine QT.n ?_
  refine WC.ret ?_
  cases H
  exact Ends.auto rfl rfl rfl trivial
theorem need_name_f : hasFunc Tryd.prog 37 Tryd.f37 := ⟨Tryd.func37, rfl, by kernel_rfl⟩

/-! ### strconv.Itoa -/
def ρi : Go.Shelf.Ren := ⟨fun n => cond (Nat.beq n 338) 76 (cond (Nat.beq n 337) 75 (cond (Nat.beq n 320) 74 (cond (Nat.beq n 319) 73 (cond (Nat.beq n 318) 72 (cond (Nat.beq n 317) 70 (cond (Nat.beq n 286) 69 (cond (Nat.beq n 285) 68 (cond (Nat.beq n 284) 67 (cond (Nat.beq n 283) 66 (cond (Nat.beq n 246) 64 (cond (Nat.beq n 243) 52 (cond (Nat.beq n 171) 38 (cond (Nat.beq n 129) 71 (0)))))))))))))), fun n => cond (Nat.beq n 233) 122 (cond (Nat.beq n 232) 121 (cond (Nat.beq n 213) 118 (cond (Nat.beq n 212) 116 (cond (Nat.beq n 173) 111 (cond (Nat.beq n 171) 109 (cond (Nat.beq n 53) 42 (cond (Nat.beq n 51) 117 (cond (Nat.beq n 46) 88 (cond (Nat.beq n 37) 54 (cond (Nat.beq n 20) 20 (cond (Nat.beq n 9) 9 (cond (Nat.beq n 5) 5 (cond (Nat.beq n 4) 4 (cond (Nat.beq n 3) 3 (cond (Nat.beq n 2) 2 (cond (Nat.beq n 0) 0 (0))))))))))))))))), fun n => cond (Nat.beq n 19) 2 (cond (Nat.beq n 18) 1 (cond (Nat.beq n 17) 0 (0)))⟩
set_option maxRecDepth 100000 in
theorem lays171b : Go.Proofs.Lays.n171 Tryd.prog ρi := by
  constructor <;> first | kernel_rfl | (intro w; kernel_rfl) | (intro w; rfl)
set_option maxRecDepth 100000 in
theorem lays171 : Go.Proofs.LaysM.n171 Tryd.prog ρi := by
  apply Go.Proofs.LaysM.n171.mk lays171b <;> kernel_rfl
theorem strconv_Itoa_0 (a0 : Int) {r : ByteArray} (H : strconv_Itoa a0 = some r) : LJ.Spec Tryd.prog 38 [.d (.int .i64 a0)] [] (.d (.str r)) [] := by
  unfold strconv_Itoa at H
  obtain ⟨g1, H⟩ := of_need H
  cases H
  exact Spec.itoa lays171 g1 (by kernel_rfl)
theorem strconv_Itoa_s (a0 : Int) {r : ByteArray} (H : strconv_Itoa a0 = some r) : LJ.Spec Tryd.prog 38 [.d (.int .i64 a0)] [] (.d (.str r)) [] := strconv_Itoa_0 a0 H
theorem strconv_Itoa_f : hasFunc Tryd.prog 38 Tryd.f38 := ⟨Tryd.func38, rfl, by kernel_rfl⟩

/-! ### (*strings.Builder).String -/
def ρb : Go.Shelf.Ren := ⟨fun n => cond (Nat.beq n 169) 39 0, fun n => cond (Nat.beq n 127) 98 (cond (Nat.beq n 72) 76 (cond (Nat.beq n 70) 74 (cond (Nat.beq n 37) 54 (cond (Nat.beq n 9) 9 (cond (Nat.beq n 5) 5 (cond (Nat.beq n 3) 3 (cond (Nat.beq n 0) 0 (0)))))))), fun _ => 0⟩
set_option maxRecDepth 100000 in
theorem lays169 : Go.Proofs.Lays.n169 Tryd.prog ρb := by
  constructor <;> first | kernel_rfl | (intro w; kernel_rfl) | (intro w; rfl)
theorem ext169 : Go.Proofs.Builder.Extra Tryd.prog ρb := by
  constructor <;> first | kernel_rfl | (intro w; kernel_rfl) | (intro w; rfl) | decide | (constructor <;> kernel_rfl)
theorem strings_Builder_String_0 (a0 : T_strings_Builder) {r : ByteArray} (H : strings_Builder_String a0 = some r) : LJ.Spec Tryd.prog 39 [.ptr 0 0] [(0, .box 76 [.optp a0.addr 0 0, .own 1]), (1, .row 5 1 (rowOf a0.buf))] (.d (.str r)) [] := by
  unfold strings_Builder_String at H
  cases H
  exact Spec.bldAny lays169 ext169
theorem strings_Builder_String_s (n0 n1 : Nat) (hn : nodupB [n0, n1] = true) (a0 : T_strings_Builder) {r : ByteArray} (H : strings_Builder_String a0 = some r) : LJ.Spec Tryd.prog 39 [.ptr n0 0] [(n0, .box 76 [.optp a0.addr n0 0, .own n1]), (n1, .row 5 1 (rowOf a0.buf))] (.d (.str r)) [] :=
  Spec.names [n0, n1] hn rfl rfl (strings_Builder_String_0 a0 H)
theorem strings_Builder_String_f : hasFunc Tryd.prog 39 Tryd.f39 := ⟨Tryd.func39, rfl, by kernel_rfl⟩

/-! ### logjam/need.Text -/
theorem need_Text_0 (a0 : List (List T_api_Need)) {r : ByteArray} (H : need_Text a0 = some r) : LJ.Spec Tryd.prog 19 [.d (slT enc_sl_api_Need a0)] [] (.d (.str r)) [] := by
  refine LJ.Spec.code Tryd.func19 rfl 48 rfl rfl [] rfl fun w0 F0 S0 B0 => ?_
  unfold need_Text at H
  refine WC.seq ?_
  refine WC.region ?_
  refine WL.run 1 tt_ok sg0 rfl rfl trivial ?_
  refine WL.nil ?_
  refine QT.n ?_
  refine WC.seq ?_
  refine WC.region ?_
  refine WL.alloc 103 tt_ok rfl rfl rfl ?_
  refine WL.nilP 103 0 103 rfl ?_
  refine WL.nilF 103 1 4031 5 1 rfl ?_
  refine WL.row 4031 (rowOf ByteArray.empty) rfl rfl rfl ?_
  refine WL.nil ?_
  refine QT.n ?_
  refine WC.seq ?_
  refine WC.seq ?_
  refine WC.region ?_
  refine WL.run 3 tt_ok sg0 rfl rfl trivial ?_
  refine WL.nil ?_
  refine QT.n ?_
  refine WC.block ?_
  refine WC.loop (ι := {x : Nat × (Int × Bool × ByteArray) // need_Text_l2 a0 x.1 x.2 = some r}) (fun x => [(3, .ptr 103 0), (8, .d (slT enc_sl_api_Need a0)), (9, .d (.int .i64 (a0.length : Int))), (10, .d (.int .i64 x.1.2.1))]) (fun x => [(103, .box 76 [.optp x.1.2.2.1 103 0, .own 4031]), (4031, .row 5 1 (rowOf x.1.2.2.2))]) (fun x => x.1.1) ⟨(fuel, (0, false, ByteArray.empty)), H⟩ (Less.mk' ⟨rfl, rfl, rfl, rfl, trivial⟩ ⟨rfl, rfl, trivial⟩) fun x => ?_
  obtain ⟨⟨k2, s1⟩, H⟩ := x
  rcases k2 with _ | k2
  · exact of_none H
  rw [need_Text_l2] at H
  refine WC.seq ?_
  refine WC.region ?_
  refine WL.run 1 tt_ok sg0 rfl rfl trivial ?_
  refine WL.nil ?_
  refine QT.n ?_
  refine WC.seq ?_
  refine WC.cond rfl (fun h3 => ?_) (fun h3 => ?_)
  · replace H := of_t H h3
    refine WC.skip ?_
    refine QT.n ?_
    obtain ⟨K4, hK4, H⟩ := of_withK H
    refine WC.cut (fun E m => ∃ s5 : Bool × ByteArray, K4 s5 = some r ∧ LessW E m [(3, .ptr 103 0), (8, .d (slT enc_sl_api_Need a0)), (9, .d (.int .i64 (a0.length : Int))), (10, .d (.int .i64 s1.1))] [(103, .box 76 [.optp s5.1 103 0, .own 4031]), (4031, .row 5 1 (rowOf s5.2))]) ?_ ?_
    · refine WC.block ?_
      refine WC.seq ?_
      refine WC.region ?_
      obtain ⟨g6, H⟩ := of_need H
      refine WL.run 5 tt_ok sg0 rfl rfl ⟨⟨(nIn_ok g6).1, (nIn_ok g6).2, rfl⟩, trivial⟩ ?_
      refine WL.nil ?_
      refine QT.n ?_
      refine WC.seq ?_
      refine WC.seq ?_
      refine WC.region ?_
      refine WL.run 2 tt_ok sg0 rfl rfl trivial ?_
      refine WL.nil ?_
      refine QT.n ?_
      refine WC.cond rfl (fun h7 => ?_) (fun h7 => ?_)
      · replace H := of_t H h7
        refine WC.region ?_
        obtain ⟨x8, hx8, H⟩ := of_bind H
        refine WL.call [4031] (strings_Builder_WriteString_s 103 4031 rfl _ _ hx8) strings_Builder_WriteString_f rfl rfl ⟨rfl, rfl, trivial⟩ rfl rfl rfl ?_
        refine WL.nil ?_
        refine QT.n ?_
        refine WC.seq ?_
        refine WC.region ?_
        refine WL.run 3 tt_ok sg0 rfl rfl trivial ?_
        refine WL.nil ?_
        refine QT.n ?_
        refine WC.block ?_
        refine WC.loop (ι := {x : Nat × (Int × Bool × ByteArray) // need_Text_l10 a0 s1 K4 x.1 x.2 = some r}) (fun x => [(3, .ptr 103 0), (8, .d (slT enc_sl_api_Need a0)), (9, .d (.int .i64 (a0.length : Int))), (10, .d (.int .i64 s1.1)), (18, .d (slT enc_api_Need (a0.getD s1.1.toNat default))), (19, .d (.int .i64 ((a0.getD s1.1.toNat default).length : Int))), (20, .d (.int .i64 x.1.2.1))]) (fun x => [(103, .box 76 [.optp x.1.2.2.1 103 0, .own 4031]), (4031, .row 5 1 (rowOf x.1.2.2.2))]) (fun x => x.1.1) ⟨(fuel, (0, x8.2.2.addr, x8.2.2.buf)), H⟩ (Less.mk' ⟨rfl, rfl, rfl, rfl, rfl, rfl, rfl, trivial⟩ ⟨rfl, rfl, trivial⟩) fun x => ?_
        obtain ⟨⟨k10, s9⟩, H⟩ := x
        rcases k10 with _ | k10
        · exact of_none H
        rw [need_Text_l10] at H
        refine WC.seq ?_
        refine WC.region ?_
        refine WL.run 1 tt_ok sg0 rfl rfl trivial ?_
        refine WL.nil ?_
        refine QT.n ?_
        refine WC.seq ?_
        refine WC.cond rfl (fun h11 => ?_) (fun h11 => ?_)
        · replace H := of_t H h11
          refine WC.skip ?_
          refine QT.n ?_
          refine WC.seq ?_
          refine WC.block ?_
          refine WC.seq ?_
          refine WC.region ?_
          obtain ⟨g12, H⟩ := of_need H
          refine WL.run 3 tt_ok sg0 rfl rfl ⟨⟨(nIn_ok g12).1, (nIn_ok g12).2, rfl⟩, trivial⟩ ?_
          refine WL.alloc 107 tt_ok rfl rfl rfl ?_
          refine WL.run 1 tt_ok sg0 rfl rfl trivial ?_
          refine WL.eff 0 tt_ok et_ok eg0 rfl rfl rfl trivial ?_
          refine WL.nil ?_
          refine QT.n ?_
          refine WC.seq ?_
          refine WC.seq ?_
          refine WC.region ?_
          refine WL.run 2 tt_ok sg0 rfl rfl trivial ?_
          refine WL.nil ?_
          refine QT.n ?_
          refine WC.cond rfl (fun h13 => ?_) (fun h13 => ?_)
          · replace H := of_t H h13
            refine WC.region ?_
            obtain ⟨x14, hx14, H⟩ := of_bind H
            refine WL.call [4031] (strings_Builder_WriteString_s 103 4031 rfl _ _ hx14) strings_Builder_WriteString_f rfl rfl ⟨rfl, rfl, trivial⟩ rfl rfl rfl ?_
            refine WL.nil ?_
            refine QT.n ?_
            refine WC.seq ?_
            refine WC.heldP (.one 0 true (.one 1 true (.one 4 true (.one 5 true (.one 2 false (.one 3 true (.one 6 false (.one 7 true (.one 8 false .done))))))))) [103, 107] [107] rfl (by kernel_rfl) rfl (by kernel_rfl) rfl rfl (fun _ h => h) rfl rfl rfl (fun _ _ _ h => h) fun FK NK wK K => ?_
            refine WH.run 4 tt_ok rfl rfl rfl rfl trivial ?_
            obtain ⟨x15, hx15, H⟩ := of_bind H
            refine WH.call [] rfl (need_name_0 _ hx15) need_name_f rfl rfl trivial rfl rfl rfl rfl rfl ?_
            obtain ⟨g16, H⟩ := of_need H
            refine WH.run 1 tt_ok rfl rfl rfl rfl ⟨(nStr_ok g16), trivial⟩ ?_
            obtain ⟨x17, hx17, H⟩ := of_bind H
            refine WH.call [] rfl (strconv_Itoa_0 _ hx17) strconv_Itoa_f rfl rfl trivial rfl rfl rfl rfl rfl ?_
            obtain ⟨g18, H⟩ := of_need H
            refine WH.run 1 tt_ok rfl rfl rfl rfl ⟨(nStr_ok g18), trivial⟩ ?_
            obtain ⟨x19, hx19, H⟩ := of_bind H
            refine WH.call [4031] rfl (strings_Builder_WriteString_s 103 4031 rfl _ _ hx19) strings_Builder_WriteString_f rfl rfl ⟨rfl, rfl, trivial⟩ rfl rfl rfl rfl rfl ?_
            refine WH.nil rfl ?_
            refine QT.n ?_
            refine WC.seq ?_
            refine WC.region ?_
            refine WL.run 2 tt_ok sg0 rfl rfl trivial ?_
            obtain ⟨x20, hx20, H⟩ := of_bind H
            refine WL.call [] (need_counted_0 _ hx20) need_counted_f rfl rfl trivial rfl rfl rfl ?_
            refine WL.nil ?_
            refine QT.n ?_
            refine WC.cond rfl (fun h21 => ?_) (fun h21 => ?_)
            · replace H := of_t H h21
              refine WC.region ?_
              refine WL.run 2 tt_ok sg0 rfl rfl trivial ?_
              obtain ⟨x22, hx22, H⟩ := of_bind H
              refine WL.call [] (strconv_Itoa_0 _ hx22) strconv_Itoa_f rfl rfl trivial rfl rfl rfl ?_
              obtain ⟨g23, H⟩ := of_need H
              refine WL.run 1 tt_ok sg0 rfl rfl ⟨(nStr_ok g23), trivial⟩ ?_
              obtain ⟨x24, hx24, H⟩ := of_bind H
              refine WL.call [4031] (strings_Builder_WriteString_s 103 4031 rfl _ _ hx24) strings_Builder_WriteString_f rfl rfl ⟨rfl, rfl, trivial⟩ rfl rfl rfl ?_
              refine WL.nil ?_
              refine QB.n (QT.n ?_)
              refine WC.region ?_
              refine WL.run 2 tt_ok sg0 rfl rfl trivial ?_
              refine WL.nil ?_
              refine QT.n ?_
              exact ⟨⟨(k10, (IntKind.i64.wrap (s9.1 + 1), x24.2.2.addr, x24.2.2.buf)), H⟩, Nat.lt_succ_self _, Less.mk' ⟨rfl, rfl, rfl, rfl, rfl, rfl, rfl, trivial⟩ ⟨rfl, rfl, trivial⟩⟩
            replace H := of_f H h21
            refine WC.skip ?_
            refine QB.n (QT.n ?_)
            refine WC.region ?_
            refine WL.run 2 tt_ok sg0 rfl rfl trivial ?_
            refine WL.nil ?_
            refine QT.n ?_
            exact ⟨⟨(k10, (IntKind.i64.wrap (s9.1 + 1), x19.2.2.addr, x19.2.2.buf)), H⟩, Nat.lt_succ_self _, Less.mk' ⟨rfl, rfl, rfl, rfl, rfl, rfl, rfl, trivial⟩ ⟨rfl, rfl, trivial⟩⟩
          replace H := of_f H h13
          refine WC.skip ?_
          refine QT.n ?_
          refine WC.seq ?_
          refine WC.heldP (.one 0 true (.one 1 true (.one 4 true (.one 5 true (.one 2 false (.one 3 true (.one 6 false (.one 7 true (.one 8 false .done))))))))) [103, 107] [107] rfl (by kernel_rfl) rfl (by kernel_rfl) rfl rfl (fun _ h => h) rfl rfl rfl (fun _ _ _ h => h) fun FK NK wK K => ?_
          refine WH.run 4 tt_ok rfl rfl rfl rfl trivial ?_
          obtain ⟨x25, hx25, H⟩ := of_bind H
          refine WH.call [] rfl (need_name_0 _ hx25) need_name_f rfl rfl trivial rfl rfl rfl rfl rfl ?_
          obtain ⟨g26, H⟩ := of_need H
          refine WH.run 1 tt_ok rfl rfl rfl rfl ⟨(nStr_ok g26), trivial⟩ ?_
          obtain ⟨x27, hx27, H⟩ := of_bind H
          refine WH.call [] rfl (strconv_Itoa_0 _ hx27) strconv_Itoa_f rfl rfl trivial rfl rfl rfl rfl rfl ?_
          obtain ⟨g28, H⟩ := of_need H
          refine WH.run 1 tt_ok rfl rfl rfl rfl ⟨(nStr_ok g28), trivial⟩ ?_
          obtain ⟨x29, hx29, H⟩ := of_bind H
          refine WH.call [4031] rfl (strings_Builder_WriteString_s 103 4031 rfl _ _ hx29) strings_Builder_WriteString_f rfl rfl ⟨rfl, rfl, trivial⟩ rfl rfl rfl rfl rfl ?_
          refine WH.nil rfl ?_
          refine QT.n ?_
          refine WC.seq ?_
          refine WC.region ?_
          refine WL.run 2 tt_ok sg0 rfl rfl trivial ?_
          obtain ⟨x30, hx30, H⟩ := of_bind H
          refine WL.call [] (need_counted_0 _ hx30) need_counted_f rfl rfl trivial rfl rfl rfl ?_
          refine WL.nil ?_
          refine QT.n ?_
          refine WC.cond rfl (fun h31 => ?_) (fun h31 => ?_)
          · replace H := of_t H h31
            refine WC.region ?_
            refine WL.run 2 tt_ok sg0 rfl rfl trivial ?_
            obtain ⟨x32, hx32, H⟩ := of_bind H
            refine WL.call [] (strconv_Itoa_0 _ hx32) strconv_Itoa_f rfl rfl trivial rfl rfl rfl ?_
            obtain ⟨g33, H⟩ := of_need H
            refine WL.run 1 tt_ok sg0 rfl rfl ⟨(nStr_ok g33), trivial⟩ ?_
            obtain ⟨x34, hx34, H⟩ := of_bind H
            refine WL.call [4031] (strings_Builder_WriteString_s 103 4031 rfl _ _ hx34) strings_Builder_WriteString_f rfl rfl ⟨rfl, rfl, trivial⟩ rfl rfl rfl ?_
            refine WL.nil ?_
            refine QB.n (QT.n ?_)
            refine WC.region ?_
            refine WL.run 2 tt_ok sg0 rfl rfl trivial ?_
            refine WL.nil ?_
            refine QT.n ?_
            exact ⟨⟨(k10, (IntKind.i64.wrap (s9.1 + 1), x34.2.2.addr, x34.2.2.buf)), H⟩, Nat.lt_succ_self _, Less.mk' ⟨rfl, rfl, rfl, rfl, rfl, rfl, rfl, trivial⟩ ⟨rfl, rfl, trivial⟩⟩
          replace H := of_f H h31
          refine WC.skip ?_
          refine QB.n (QT.n ?_)
          refine WC.region ?_
          refine WL.run 2 tt_ok sg0 rfl rfl trivial ?_
          refine WL.nil ?_
          refine QT.n ?_
          exact ⟨⟨(k10, (IntKind.i64.wrap (s9.1 + 1), x29.2.2.addr, x29.2.2.buf)), H⟩, Nat.lt_succ_self _, Less.mk' ⟨rfl, rfl, rfl, rfl, rfl, rfl, rfl, trivial⟩ ⟨rfl, rfl, trivial⟩⟩
        replace H := of_f H h11
        refine WC.exit ?_
        refine QT.x (QT.x (QB.hit (QB.n (QT.n ?_))))
        exact ⟨(s9.2.1, s9.2.2), H, LessW.mk' ⟨AVle.of rfl, AVle.of rfl, AVle.of rfl, AVle.of rfl, trivial⟩ ⟨rfl, rfl, trivial⟩⟩
      replace H := of_f H h7
      refine WC.skip ?_
      refine QT.n ?_
      refine WC.seq ?_
      refine WC.region ?_
      refine WL.run 3 tt_ok sg0 rfl rfl trivial ?_
      refine WL.nil ?_
      refine QT.n ?_
      refine WC.block ?_
      refine WC.loop (ι := {x : Nat × (Int × Bool × ByteArray) // need_Text_l36 a0 s1 K4 x.1 x.2 = some r}) (fun x => [(3, .ptr 103 0), (8, .d (slT enc_sl_api_Need a0)), (9, .d (.int .i64 (a0.length : Int))), (10, .d (.int .i64 s1.1)), (18, .d (slT enc_api_Need (a0.getD s1.1.toNat default))), (19, .d (.int .i64 ((a0.getD s1.1.toNat default).length : Int))), (20, .d (.int .i64 x.1.2.1))]) (fun x => [(103, .box 76 [.optp x.1.2.2.1 103 0, .own 4031]), (4031, .row 5 1 (rowOf x.1.2.2.2))]) (fun x => x.1.1) ⟨(fuel, (0, s1.2.1, s1.2.2)), H⟩ (Less.mk' ⟨rfl, rfl, rfl, rfl, rfl, rfl, rfl, trivial⟩ ⟨rfl, rfl, trivial⟩) fun x => ?_
      obtain ⟨⟨k36, s35⟩, H⟩ := x
      rcases k36 with _ | k36
      · exact of_none H
      rw [need_Text_l36] at H
      refine WC.seq ?_
      refine WC.region ?_
      refine WL.run 1 tt_ok sg0 rfl rfl trivial ?_
      refine WL.nil ?_
      refine QT.n ?_
      refine WC.seq ?_
      refine WC.cond rfl (fun h37 => ?_) (fun h37 => ?_)
      · replace H := of_t H h37
        refine WC.skip ?_
        refine QT.n ?_
        refine WC.seq ?_
        refine WC.block ?_
        refine WC.seq ?_
        refine WC.region ?_
        obtain ⟨g38, H⟩ := of_need H
        refine WL.run 3 tt_ok sg0 rfl rfl ⟨⟨(nIn_ok g38).1, (nIn_ok g38).2, rfl⟩, trivial⟩ ?_
        refine WL.alloc 107 tt_ok rfl rfl rfl ?_
        refine WL.run 1 tt_ok sg0 rfl rfl trivial ?_
        refine WL.eff 0 tt_ok et_ok eg0 rfl rfl rfl trivial ?_
        refine WL.nil ?_
        refine QT.n ?_
        refine WC.seq ?_
        refine WC.seq ?_
        refine WC.region ?_
        refine WL.run 2 tt_ok sg0 rfl rfl trivial ?_
        refine WL.nil ?_
        refine QT.n ?_
        refine WC.cond rfl (fun h39 => ?_) (fun h39 => ?_)
        · replace H := of_t H h39
          refine WC.region ?_
          obtain ⟨x40, hx40, H⟩ := of_bind H
          refine WL.call [4031] (strings_Builder_WriteString_s 103 4031 rfl _ _ hx40) strings_Builder_WriteString_f rfl rfl ⟨rfl, rfl, trivial⟩ rfl rfl rfl ?_
          refine WL.nil ?_
          refine QT.n ?_
          refine WC.seq ?_
          refine WC.heldP (.one 0 true (.one 1 true (.one 4 true (.one 5 true (.one 2 false (.one 3 true (.one 6 false (.one 7 true (.one 8 false .done))))))))) [103, 107] [107] rfl (by kernel_rfl) rfl (by kernel_rfl) rfl rfl (fun _ h => h) rfl rfl rfl (fun _ _ _ h => h) fun FK NK wK K => ?_
          refine WH.run 4 tt_ok rfl rfl rfl rfl trivial ?_
          obtain ⟨x41, hx41, H⟩ := of_bind H
          refine WH.call [] rfl (need_name_0 _ hx41) need_name_f rfl rfl trivial rfl rfl rfl rfl rfl ?_
          obtain ⟨g42, H⟩ := of_need H
          refine WH.run 1 tt_ok rfl rfl rfl rfl ⟨(nStr_ok g42), trivial⟩ ?_
          obtain ⟨x43, hx43, H⟩ := of_bind H
          refine WH.call [] rfl (strconv_Itoa_0 _ hx43) strconv_Itoa_f rfl rfl trivial rfl rfl rfl rfl rfl ?_
          obtain ⟨g44, H⟩ := of_need H
          refine WH.run 1 tt_ok rfl rfl rfl rfl ⟨(nStr_ok g44), trivial⟩ ?_
          obtain ⟨x45, hx45, H⟩ := of_bind H
          refine WH.call [4031] rfl (strings_Builder_WriteString_s 103 4031 rfl _ _ hx45) strings_Builder_WriteString_f rfl rfl ⟨rfl, rfl, trivial⟩ rfl rfl rfl rfl rfl ?_
          refine WH.nil rfl ?_
          refine QT.n ?_
          refine WC.seq ?_
          refine WC.region ?_
          refine WL.run 2 tt_ok sg0 rfl rfl trivial ?_
          obtain ⟨x46, hx46, H⟩ := of_bind H
          refine WL.call [] (need_counted_0 _ hx46) need_counted_f rfl rfl trivial rfl rfl rfl ?_
          refine WL.nil ?_
          refine QT.n ?_
          refine WC.cond rfl (fun h47 => ?_) (fun h47 => ?_)
          · replace H := of_t H h47
            refine WC.region ?_
            refine WL.run 2 tt_ok sg0 rfl rfl trivial ?_
            obtain ⟨x48, hx48, H⟩ := of_bind H
            refine WL.call [] (strconv_Itoa_0 _ hx48) strconv_Itoa_f rfl rfl trivial rfl rfl rfl ?_
            obtain ⟨g49, H⟩ := of_need H
            refine WL.run 1 tt_ok sg0 rfl rfl ⟨(nStr_ok g49), trivial⟩ ?_
            obtain ⟨x50, hx50, H⟩ := of_bind H
            refine WL.call [4031] (strings_Builder_WriteString_s 103 4031 rfl _ _ hx50) strings_Builder_WriteString_f rfl rfl ⟨rfl, rfl, trivial⟩ rfl rfl rfl ?_
            refine WL.nil ?_
            refine QB.n (QT.n ?_)
            refine WC.region ?_
            refine WL.run 2 tt_ok sg0 rfl rfl trivial ?_
            refine WL.nil ?_
            refine QT.n ?_
            exact ⟨⟨(k36, (IntKind.i64.wrap (s35.1 + 1), x50.2.2.addr, x50.2.2.buf)), H⟩, Nat.lt_succ_self _, Less.mk' ⟨rfl, rfl, rfl, rfl, rfl, rfl, rfl, trivial⟩ ⟨rfl, rfl, trivial⟩⟩
          replace H := of_f H h47
          refine WC.skip ?_
          refine QB.n (QT.n ?_)
          refine WC.region ?_
          refine WL.run 2 tt_ok sg0 rfl rfl trivial ?_
          refine WL.nil ?_
          refine QT.n ?_
          exact ⟨⟨(k36, (IntKind.i64.wrap (s35.1 + 1), x45.2.2.addr, x45.2.2.buf)), H⟩, Nat.lt_succ_self _, Less.mk' ⟨rfl, rfl, rfl, rfl, rfl, rfl, rfl, trivial⟩ ⟨rfl, rfl, trivial⟩⟩
        replace H := of_f H h39
        refine WC.skip ?_
        refine QT.n ?_
        refine WC.seq ?_
        refine WC.heldP (.one 0 true (.one 1 true (.one 4 true (.one 5 true (.one 2 false (.one 3 true (.one 6 false (.one 7 true (.one 8 false .done))))))))) [103, 107] [107] rfl (by kernel_rfl) rfl (by kernel_rfl) rfl rfl (fun _ h => h) rfl rfl rfl (fun _ _ _ h => h) fun FK NK wK K => ?_
        refine WH.run 4 tt_ok rfl rfl rfl rfl trivial ?_
        obtain ⟨x51, hx51, H⟩ := of_bind H
        refine WH.call [] rfl (need_name_0 _ hx51) need_name_f rfl rfl trivial rfl rfl rfl rfl rfl ?_
        obtain ⟨g52, H⟩ := of_need H
        refine WH.run 1 tt_ok rfl rfl rfl rfl ⟨(nStr_ok g52), trivial⟩ ?_
        obtain ⟨x53, hx53, H⟩ := of_bind H
        refine WH.call [] rfl (strconv_Itoa_0 _ hx53) strconv_Itoa_f rfl rfl trivial rfl rfl rfl rfl rfl ?_
        obtain ⟨g54, H⟩ := of_need H
        refine WH.run 1 tt_ok rfl rfl rfl rfl ⟨(nStr_ok g54), trivial⟩ ?_
        obtain ⟨x55, hx55, H⟩ := of_bind H
        refine WH.call [4031] rfl (strings_Builder_WriteString_s 103 4031 rfl _ _ hx55) strings_Builder_WriteString_f rfl rfl ⟨rfl, rfl, trivial⟩ rfl rfl rfl rfl rfl ?_
        refine WH.nil rfl ?_
        refine QT.n ?_
        refine WC.seq ?_
        refine WC.region ?_
        refine WL.run 2 tt_ok sg0 rfl rfl trivial ?_
        obtain ⟨x56, hx56, H⟩ := of_bind H
        refine WL.call [] (need_counted_0 _ hx56) need_counted_f rfl rfl trivial rfl rfl rfl ?_
        refine WL.nil ?_
        refine QT.n ?_
        refine WC.cond rfl (fun h57 => ?_) (fun h57 => ?_)
        · replace H := of_t H h57
          refine WC.region ?_
          refine WL.run 2 tt_ok sg0 rfl rfl trivial ?_
          obtain ⟨x58, hx58, H⟩ := of_bind H
          refine WL.call [] (strconv_Itoa_0 _ hx58) strconv_Itoa_f rfl rfl trivial rfl rfl rfl ?_
          obtain ⟨g59, H⟩ := of_need H
          refine WL.run 1 tt_ok sg0 rfl rfl ⟨(nStr_ok g59), trivial⟩ ?_
          obtain ⟨x60, hx60, H⟩ := of_bind H
          refine WL.call [4031] (strings_Builder_WriteString_s 103 4031 rfl _ _ hx60) strings_Builder_WriteString_f rfl rfl ⟨rfl, rfl, trivial⟩ rfl rfl rfl ?_
          refine WL.nil ?_
          refine QB.n (QT.n ?_)
          refine WC.region ?_
          refine WL.run 2 tt_ok sg0 rfl rfl trivial ?_
          refine WL.nil ?_
          refine QT.n ?_
          exact ⟨⟨(k36, (IntKind.i64.wrap (s35.1 + 1), x60.2.2.addr, x60.2.2.buf)), H⟩, Nat.lt_succ_self _, Less.mk' ⟨rfl, rfl, rfl, rfl, rfl, rfl, rfl, trivial⟩ ⟨rfl, rfl, trivial⟩⟩
        replace H := of_f H h57
        refine WC.skip ?_
        refine QB.n (QT.n ?_)
        refine WC.region ?_
        refine WL.run 2 tt_ok sg0 rfl rfl trivial ?_
        refine WL.nil ?_
        refine QT.n ?_
        exact ⟨⟨(k36, (IntKind.i64.wrap (s35.1 + 1), x55.2.2.addr, x55.2.2.buf)), H⟩, Nat.lt_succ_self _, Less.mk' ⟨rfl, rfl, rfl, rfl, rfl, rfl, rfl, trivial⟩ ⟨rfl, rfl, trivial⟩⟩
      replace H := of_f H h37
      refine WC.exit ?_
      refine QT.x (QT.x (QB.hit (QB.n (QT.n ?_))))
      exact ⟨(s35.2.1, s35.2.2), H, LessW.mk' ⟨AVle.of rfl, AVle.of rfl, AVle.of rfl, AVle.of rfl, trivial⟩ ⟨rfl, rfl, trivial⟩⟩
    · rintro E m ⟨s5, H, hl⟩
      refine WC.lessW hl ?_
      replace H := (hK4 _).symm.trans H
      try dsimp only at H
      refine WC.region ?_
      refine WL.run 2 tt_ok sg0 rfl rfl trivial ?_
      refine WL.nil ?_
      refine QT.n ?_
      exact ⟨⟨(k2, (IntKind.i64.wrap (s1.1 + 1), s5.1, s5.2)), H⟩, Nat.lt_succ_self _, Less.mk' ⟨rfl, rfl, rfl, rfl, trivial⟩ ⟨rfl, rfl, trivial⟩⟩
  replace H := of_f H h3
  refine WC.exit ?_
  refine QT.x (QT.x (QB.hit (QT.n ?_)))
  refine WC.seq ?_
  refine WC.region ?_
  obtain ⟨x61, hx61, H⟩ := of_bind H
  refine WL.call [] (strings_Builder_String_s 103 4031 rfl _ hx61) strings_Builder_String_f rfl rfl ⟨rfl, rfl, trivial⟩ rfl rfl rfl ?_
  refine WL.run 1 tt_ok sg0 rfl rfl trivial ?_
  refine WL.nil ?_
  refine QT.n ?_
  refine WC.ret ?_
  cases H
  exact Ends.auto rfl rfl rfl trivial
theorem need_Text_f : hasFunc Tryd.prog 19 Tryd.f19 := ⟨Tryd.func19, rfl, by kernel_rfl⟩

/-! ### logjam/logjamlaw09.lives -/
theorem law09_lives_0  {r : Bool} (H : law09_lives = some r) : LJ.Spec Tryd.prog 9 [] [] (.d (.bool r)) [] := by
  refine LJ.Spec.code Tryd.func9 rfl 58 rfl rfl [] rfl fun w0 F0 S0 B0 => ?_
  unfold law09_lives at H
  refine WC.seq ?_
  refine WC.region ?_
  refine WL.run 1 tt_ok sg0 rfl rfl trivial ?_
  refine WL.nil ?_
  refine QT.n ?_
  refine WC.seq ?_
  refine WC.region ?_
  refine WL.run 2 tt_ok sg0 rfl rfl trivial ?_
  refine WL.eff 110 tt_ok et_ok eg0 rfl rfl rfl trivial ?_
  refine WL.freezeT 110 enc_api_Decl ([(⟨1, 0, 0⟩ : T_api_Decl), (⟨3, 0, 2⟩ : T_api_Decl)] : List T_api_Decl) rfl rfl rfl rfl ?_
  refine WL.run 1 tt_ok sg0 rfl rfl trivial ?_
  refine WL.nil ?_
  refine QT.n ?_
  refine WC.seq ?_
  refine WC.region ?_
  refine WL.run 1 tt_ok sg0 rfl rfl trivial ?_
  refine WL.eff 112 tt_ok et_ok eg0 rfl rfl rfl trivial ?_
  refine WL.freezeT 112 enc_api_Need ([(⟨1, 0, 0⟩ : T_api_Need)] : List T_api_Need) rfl rfl rfl rfl ?_
  refine WL.run 1 tt_ok sg0 rfl rfl trivial ?_
  refine WL.eff 114 tt_ok et_ok eg0 rfl rfl rfl trivial ?_
  refine WL.freezeT 114 enc_api_Need ([(⟨4, 1, 2⟩ : T_api_Need)] : List T_api_Need) rfl rfl rfl rfl ?_
  refine WL.eff 115 tt_ok et_ok eg0 rfl rfl rfl trivial ?_
  refine WL.freezeT 115 enc_sl_api_Need ([([(⟨1, 0, 0⟩ : T_api_Need)] : List T_api_Need), ([(⟨4, 1, 2⟩ : T_api_Need)] : List T_api_Need)] : List (List T_api_Need)) rfl rfl rfl rfl ?_
  refine WL.run 1 tt_ok sg0 rfl rfl trivial ?_
  refine WL.nil ?_
  refine QT.n ?_
  refine WC.seq ?_
  refine WC.region ?_
  refine WL.run 2 tt_ok sg0 rfl rfl trivial ?_
  obtain ⟨x1, hx1, H⟩ := of_bind H
  refine WL.call [] (need_Put_0 _ _ hx1) need_Put_f rfl rfl trivial rfl rfl rfl ?_
  refine WL.run 5 tt_ok sg0 rfl rfl trivial ?_
  refine WL.nil ?_
  refine QT.n ?_
  refine WC.seq ?_
  refine WC.region ?_
  refine WL.run 2 tt_ok sg0 rfl rfl trivial ?_
  obtain ⟨x2, hx2, H⟩ := of_bind H
  refine WL.call [] (need_Get_0 _ _ hx2) need_Get_f rfl rfl trivial rfl rfl rfl ?_
  refine WL.run 7 tt_ok sg0 rfl rfl trivial ?_
  refine WL.nil ?_
  refine QT.n ?_
  refine WC.seq ?_
  refine WC.region ?_
  refine WL.run 3 tt_ok sg0 rfl rfl trivial ?_
  refine WL.sect 2 2 true tt_ok sg0 rfl rfl (fun _ => trivial) ?_
  refine WL.run 2 tt_ok sg0 rfl rfl ⟨by first | exact id | exact fun h => by rw [h]; rfl | simp_all, trivial⟩ ?_
  obtain ⟨x3, hx3, H⟩ := of_bind H
  refine WL.sect 3 6 true tt_ok [PSig.at' ref09_Same_f (((sEq x1.1 (⟨#[2, 1, 1, 0, 1, 4, 1, 2]⟩ : ByteArray)) && (iEq x1.2 0)) = true) rfl (fun hb => ref09_Same_0 _ _ (of_t hx3 hb))] rfl rfl (fun hb => ⟨⟨hb, rfl⟩, trivial⟩) ?_
  refine WL.run 2 tt_ok sg0 rfl rfl ⟨by first | exact id | exact fun h => by rw [h]; rfl | simp_all, trivial⟩ ?_
  refine WL.sect 2 11 true tt_ok sg0 rfl rfl (fun _ => trivial) ?_
  refine WL.run 2 tt_ok sg0 rfl rfl ⟨by first | exact id | exact fun h => by rw [h]; rfl | simp_all, trivial⟩ ?_
  refine WL.sect 2 15 true tt_ok sg0 rfl rfl (fun _ => trivial) ?_
  refine WL.run 2 tt_ok sg0 rfl rfl ⟨by first | exact id | exact fun h => by rw [h]; rfl | simp_all, trivial⟩ ?_
  obtain ⟨x4, hx4, H⟩ := of_bind H
  refine WL.sect 3 19 true tt_ok [PSig.at' need_Text_f ((((((sEq x1.1 (⟨#[2, 1, 1, 0, 1, 4, 1, 2]⟩ : ByteArray)) && (iEq x1.2 0)) && x3) && (iEq x2.2.1 8)) && (iEq x2.2.2 0)) = true) rfl (fun hb => need_Text_0 _ (of_t hx4 hb))] rfl rfl (fun hb => ⟨⟨hb, rfl⟩, trivial⟩) ?_
  refine WL.run 2 tt_ok sg0 rfl rfl ⟨by first | exact id | exact fun h => by rw [h]; rfl | simp_all, trivial⟩ ?_
  obtain ⟨x5, hx5, H⟩ := of_bind H
  refine WL.sect 3 24 true tt_ok [PSig.at' need_Check_f (((((((sEq x1.1 (⟨#[2, 1, 1, 0, 1, 4, 1, 2]⟩ : ByteArray)) && (iEq x1.2 0)) && x3) && (iEq x2.2.1 8)) && (iEq x2.2.2 0)) && (sEq x4 (⟨#[108, 111, 99, 107, 32, 48, 32, 124, 32, 100, 111, 119, 110, 32, 49, 58, 50]⟩ : ByteArray))) = true) rfl (fun hb => Spec.le (args' := [.d (slT enc_api_Decl ([(⟨1, 0, 0⟩ : T_api_Decl), (⟨3, 0, 2⟩ : T_api_Decl)] : List T_api_Decl)), .d (.nils)]) (args := [.d (slT enc_api_Decl ([(⟨1, 0, 0⟩ : T_api_Decl), (⟨3, 0, 2⟩ : T_api_Decl)] : List T_api_Decl)), .d (slT enc_sl_api_Need [])]) ⟨AVle.of rfl, AVle.nil rfl, trivial⟩ (need_Check_0 ([(⟨1, 0, 0⟩ : T_api_Decl), (⟨3, 0, 2⟩ : T_api_Decl)] : List T_api_Decl) ([] : List (List T_api_Need)) (of_t hx5 hb)))] rfl rfl (fun hb => ⟨⟨hb, rfl⟩, trivial⟩) ?_
  refine WL.run 2 tt_ok sg0 rfl rfl ⟨by first | exact id | exact fun h => by rw [h]; rfl | simp_all, trivial⟩ ?_
  refine WL.nil ?_
  refine QT.n ?_
  refine WC.ret ?_
  cases H
  exact Ends.auto rfl rfl rfl trivial
theorem law09_lives_f : hasFunc Tryd.prog 9 Tryd.f9 := ⟨Tryd.func9, rfl, by kernel_rfl⟩

/-! ### logjam/logjamlaw09.Own -/
theorem law09_Own_0 (a0 : List (List T_api_Need)) {r : List (List T_api_Need)} (H : law09_Own a0 = some r) : LJ.Spec Tryd.prog 10 [.d (slT enc_sl_api_Need a0)] [] (.d (slT enc_sl_api_Need r)) [] := by
  refine LJ.Spec.code Tryd.func10 rfl 33 rfl rfl [] rfl fun w0 F0 S0 B0 => ?_
  unfold law09_Own at H
  refine WC.seq ?_
  refine WC.region ?_
  refine WL.run 1 tt_ok sg0 rfl rfl trivial ?_
  refine WL.nil ?_
  refine QT.n ?_
  refine WC.seq ?_
  refine WC.region ?_
  refine WL.eff 106 tt_ok et_ok eg0 rfl rfl rfl trivial ?_
  refine WL.run 1 tt_ok sg0 rfl rfl trivial ?_
  refine WL.nil ?_
  refine QT.n ?_
  refine WC.seq ?_
  refine WC.seq ?_
  refine WC.region ?_
  refine WL.run 1 tt_ok sg0 rfl rfl trivial ?_
  refine WL.nil ?_
  refine QT.n ?_
  refine WC.block ?_
  refine WC.loop (ι := {x : Nat × (Int × (List (List T_api_Need))) // law09_Own_l2 a0 x.1 x.2 = some r}) (fun x => [(0, .d (slT enc_sl_api_Need a0)), (3, .own 106), (4, .d (.int .i64 x.1.2.1))]) (fun x => [(106, .row 51 1 (x.1.2.2.map enc_sl_api_Need))]) (fun x => x.1.1) ⟨(fuel, (0, ([] : List (List T_api_Need)))), H⟩ (Less.mk' ⟨rfl, rfl, rfl, trivial⟩ ⟨rfl, trivial⟩) fun x => ?_
  obtain ⟨⟨k2, s1⟩, H⟩ := x
  rcases k2 with _ | k2
  · exact of_none H
  rw [law09_Own_l2] at H
  refine WC.seq ?_
  refine WC.seq ?_
  refine WC.region ?_
  refine WL.run 5 tt_ok sg0 rfl rfl trivial ?_
  refine WL.sect 2 4 true tt_ok sg0 rfl rfl (fun _ => trivial) ?_
  refine WL.run 1 tt_ok sg0 rfl rfl ⟨by first | exact id | exact fun h => by rw [h]; rfl | simp_all, trivial⟩ ?_
  refine WL.nil ?_
  refine QT.n ?_
  refine WC.cond rfl (fun h3 => ?_) (fun h3 => ?_)
  · replace H := of_t H h3
    refine WC.skip ?_
    refine QT.n ?_
    refine WC.seq ?_
    refine WC.block ?_
    refine WC.seq ?_
    refine WC.region ?_
    obtain ⟨g4, H⟩ := of_need H
    refine WL.run 5 tt_ok sg0 rfl rfl ⟨⟨(nIn_ok g4).1, (nIn_ok g4).2, rfl⟩, trivial⟩ ?_
    refine WL.nil ?_
    refine QT.n ?_
    refine WC.seq ?_
    refine WC.seq ?_
    refine WC.region ?_
    refine WL.run 3 tt_ok sg0 rfl rfl trivial ?_
    refine WL.nil ?_
    refine QT.n ?_
    refine WC.cond rfl (fun h5 => ?_) (fun h5 => ?_)
    · replace H := of_t H h5
      refine WC.region ?_
      refine WL.run 1 tt_ok sg0 rfl rfl trivial ?_
      obtain ⟨g6, H⟩ := of_need H
      refine WL.yv (LJ.Y.sliceT enc_api_Need (a0.getD s1.1.toNat default) tt_ok rfl (fun _ => rfl) none (some (.const (.int .i64 6))) (0 : Int) (6 : Int) rfl rfl ⟨_, rfl⟩ rfl rfl (nSl_ok g6)) rfl rfl rfl ?_
      refine WL.run 1 tt_ok sg0 rfl rfl trivial ?_
      refine WL.nil ?_
      refine QT.n ?_
      refine WC.region ?_
      refine WL.run 1 tt_ok sg0 rfl rfl trivial ?_
      refine WL.eff 127 tt_ok et_ok eg0 rfl rfl rfl trivial ?_
      refine WL.run 1 tt_ok sg0 rfl rfl trivial ?_
      refine WL.row 127 (([] : List T_api_Need).map enc_api_Need) rfl rfl rfl ?_
      obtain ⟨g7, H⟩ := of_need H
      refine WL.appT enc_api_Need ([] : List T_api_Need) (((a0.getD s1.1.toNat default).take (6 : Int).toNat).drop (0 : Int).toNat) tt_ok et_ok rfl rfl (fun _ => rfl) (fun _ => rfl) rfl rfl rfl rfl (nCap_ok g7) rfl rfl rfl rfl rfl ?_
      refine WL.freezeT 127 enc_api_Need (([] : List T_api_Need) ++ (((a0.getD s1.1.toNat default).take (6 : Int).toNat).drop (0 : Int).toNat)) rfl rfl rfl rfl ?_
      refine WL.eff 130 tt_ok et_ok eg0 rfl rfl rfl trivial ?_
      refine WL.freezeT 130 enc_sl_api_Need ([([] : List T_api_Need) ++ (((a0.getD s1.1.toNat default).take (6 : Int).toNat).drop (0 : Int).toNat)] : List (List T_api_Need)) rfl rfl rfl rfl ?_
      obtain ⟨g8, H⟩ := of_need H
      refine WL.appT enc_sl_api_Need s1.2 ([([] : List T_api_Need) ++ (((a0.getD s1.1.toNat default).take (6 : Int).toNat).drop (0 : Int).toNat)] : List (List T_api_Need)) tt_ok et_ok rfl rfl (fun _ => rfl) (fun _ => rfl) rfl rfl rfl rfl (nCap_ok g8) rfl rfl rfl rfl rfl ?_
      refine WL.run 1 tt_ok sg0 rfl rfl trivial ?_
      refine WL.nil ?_
      refine QB.n (QT.n ?_)
      refine WC.region ?_
      refine WL.run 3 tt_ok sg0 rfl rfl trivial ?_
      refine WL.nil ?_
      refine QT.n ?_
      exact ⟨⟨(k2, (IntKind.i64.wrap (s1.1 + 1), s1.2 ++ ([([] : List T_api_Need) ++ (((a0.getD s1.1.toNat default).take (6 : Int).toNat).drop (0 : Int).toNat)] : List (List T_api_Need)))), H⟩, Nat.lt_succ_self _, Less.mk' ⟨rfl, rfl, rfl, trivial⟩ ⟨rfl, trivial⟩⟩
    replace H := of_f H h5
    refine WC.skip ?_
    refine QT.n ?_
    refine WC.region ?_
    refine WL.run 1 tt_ok sg0 rfl rfl trivial ?_
    refine WL.eff 127 tt_ok et_ok eg0 rfl rfl rfl trivial ?_
    refine WL.run 1 tt_ok sg0 rfl rfl trivial ?_
    refine WL.row 127 (([] : List T_api_Need).map enc_api_Need) rfl rfl rfl ?_
    obtain ⟨g9, H⟩ := of_need H
    refine WL.appT enc_api_Need ([] : List T_api_Need) (a0.getD s1.1.toNat default) tt_ok et_ok rfl rfl (fun _ => rfl) (fun _ => rfl) rfl rfl rfl rfl (nCap_ok g9) rfl rfl rfl rfl rfl ?_
    refine WL.freezeT 127 enc_api_Need (([] : List T_api_Need) ++ (a0.getD s1.1.toNat default)) rfl rfl rfl rfl ?_
    refine WL.eff 130 tt_ok et_ok eg0 rfl rfl rfl trivial ?_
    refine WL.freezeT 130 enc_sl_api_Need ([([] : List T_api_Need) ++ (a0.getD s1.1.toNat default)] : List (List T_api_Need)) rfl rfl rfl rfl ?_
    obtain ⟨g10, H⟩ := of_need H
    refine WL.appT enc_sl_api_Need s1.2 ([([] : List T_api_Need) ++ (a0.getD s1.1.toNat default)] : List (List T_api_Need)) tt_ok et_ok rfl rfl (fun _ => rfl) (fun _ => rfl) rfl rfl rfl rfl (nCap_ok g10) rfl rfl rfl rfl rfl ?_
    refine WL.run 1 tt_ok sg0 rfl rfl trivial ?_
    refine WL.nil ?_
    refine QB.n (QT.n ?_)
    refine WC.region ?_
    refine WL.run 3 tt_ok sg0 rfl rfl trivial ?_
    refine WL.nil ?_
    refine QT.n ?_
    exact ⟨⟨(k2, (IntKind.i64.wrap (s1.1 + 1), s1.2 ++ ([([] : List T_api_Need) ++ (a0.getD s1.1.toNat default)] : List (List T_api_Need)))), H⟩, Nat.lt_succ_self _, Less.mk' ⟨rfl, rfl, rfl, trivial⟩ ⟨rfl, trivial⟩⟩
  replace H := of_f H h3
  refine WC.exit ?_
  refine QT.x (QT.x (QB.hit (QT.n ?_)))
  refine WC.seq ?_
  refine WC.region ?_
  refine WL.run 2 tt_ok sg0 rfl rfl trivial ?_
  refine WL.nil ?_
  refine QT.n ?_
  refine WC.freezeT 106 enc_sl_api_Need s1.2 rfl rfl rfl rfl ?_
  refine WC.ret ?_
  cases H
  exact Ends.auto rfl rfl rfl trivial
theorem law09_Own_f : hasFunc Tryd.prog 10 Tryd.f10 := ⟨Tryd.func10, rfl, by kernel_rfl⟩

/-! ### logjam/logjamref02.Digits -/
theorem ref02_Digits_rk_f : hasFunc Tryd.prog 53 Tryd.f53 := ⟨Tryd.func53, rfl, by kernel_rfl⟩
theorem ref02_Digits_r_0 : ∀ (k : Nat) (a0 : Int) {r : ByteArray} (H : ref02_Digits_r k a0 = some r), LJ.Spec Tryd.prog 53 [.d (.int .i64 a0)] [] (.d (.str r)) []
  | 0, a0, r, H => by cases H
  | k + 1, a0, r, H => by
    have ref02_Digits_rk_0 : ∀ (a0 : Int) {r : ByteArray} (H : ref02_Digits_r k a0 = some r), LJ.Spec Tryd.prog 53 [.d (.int .i64 a0)] [] (.d (.str r)) [] := fun a0 r H => ref02_Digits_r_0 k a0 H
    refine LJ.Spec.code Tryd.func53 rfl 20 rfl rfl [] rfl fun w0 F0 S0 B0 => ?_
    rw [ref02_Digits_r] at H
    refine WC.seq ?_
    refine WC.region ?_
    refine WL.run 1 tt_ok sg0 rfl rfl trivial ?_
    refine WL.nil ?_
    refine QT.n ?_
    refine WC.seq ?_
    refine WC.seq ?_
    refine WC.region ?_
    refine WL.run 2 tt_ok sg0 rfl rfl trivial ?_
    refine WL.nil ?_
    refine QT.n ?_
    refine WC.cond rfl (fun h1 => ?_) (fun h1 => ?_)
    · replace H := of_t H h1
      refine WC.seq ?_
      refine WC.region ?_
      refine WL.run 3 tt_ok sg0 rfl rfl trivial ?_
      refine WL.eff 108 tt_ok et_ok eg0 rfl rfl rfl trivial ?_
      obtain ⟨g2, H⟩ := of_need H
      refine WL.row 108 (rowOf (ByteArray.empty.push (UInt8.ofNat (IntKind.u8.wrap (IntKind.i64.wrap ((48 : Int) + a0))).toNat))) rfl (rowOf_one (s := .empty) (nIn_ok g2).1 (nIn_ok g2).2) rfl ?_
      refine WL.ownStr (ByteArray.empty.push (UInt8.ofNat (IntKind.u8.wrap (IntKind.i64.wrap ((48 : Int) + a0))).toNat)) tt_ok rfl rfl rfl rfl ?_
      refine WL.run 1 tt_ok sg0 rfl rfl trivial ?_
      refine WL.nil ?_
      refine QT.n ?_
      refine WC.ret ?_
      refine QT.r ?_
      cases H
      exact Ends.auto rfl rfl rfl trivial
    replace H := of_f H h1
    refine WC.skip ?_
    refine QT.n ?_
    refine WC.seq ?_
    obtain ⟨x3_2_1, hx3_2_1, H⟩ := of_bind H
    obtain ⟨g3_8_1, H⟩ := of_need H
    obtain ⟨g3_9_1, H⟩ := of_need H
    refine WC.heldF [(2, .d (.str (x3_2_1 ++ (ByteArray.empty.push (UInt8.ofNat (IntKind.u8.wrap (IntKind.i64.wrap ((48 : Int) + (Int.tmod a0 10)))).toNat)))))] [] (.one 0 true (.one 1 true (.one 3 true (.one 4 true (.one 5 true (.one 6 true (.fork (.one 2 false (.one 7 false (.one 8 false (.one 9 true (.one 10 true .done))))) (.one 7 false (.fork (.one 2 false (.one 8 false (.one 9 true (.one 10 true .done)))) (.one 8 false (.one 2 false (.one 9 true (.one 10 true .done))))))))))))) [] [] rfl (by kernel_rfl) rfl (by kernel_rfl) rfl rfl (fun _ h => h) rfl rfl rfl (fun FK NK wK K => ?_) ?_
    · refine WH.run 6 tt_ok rfl rfl rfl rfl trivial ?_
      refine WH.fork ?_ ?_
      · refine WH.call [] rfl (ref02_Digits_rk_0 _ hx3_2_1) ref02_Digits_rk_f rfl rfl trivial rfl rfl rfl rfl rfl ?_
        refine WH.eff 117 tt_ok et_ok rfl rfl rfl rfl trivial rfl rfl ?_
        refine WH.row 117 (rowOf (ByteArray.empty.push (UInt8.ofNat (IntKind.u8.wrap (IntKind.i64.wrap ((48 : Int) + (Int.tmod a0 10)))).toNat))) rfl (rowOf_one (s := .empty) (nIn_ok g3_8_1).1 (nIn_ok g3_8_1).2) rfl ?_
        refine WH.ownStr (ByteArray.empty.push (UInt8.ofNat (IntKind.u8.wrap (IntKind.i64.wrap ((48 : Int) + (Int.tmod a0 10)))).toNat)) tt_ok rfl rfl rfl rfl rfl rfl rfl ?_
        refine WH.run 2 tt_ok rfl rfl rfl rfl ⟨(nStr_ok g3_9_1), trivial⟩ ?_
        exact WH.nilF rfl (LessW.mk' ⟨AVle.of rfl, trivial⟩ trivial)
      · refine WH.eff 117 tt_ok et_ok rfl rfl rfl rfl trivial rfl rfl ?_
        refine WH.fork ?_ ?_
        · refine WH.call [] rfl (ref02_Digits_rk_0 _ hx3_2_1) ref02_Digits_rk_f rfl rfl trivial rfl rfl rfl rfl rfl ?_
          refine WH.row 117 (rowOf (ByteArray.empty.push (UInt8.ofNat (IntKind.u8.wrap (IntKind.i64.wrap ((48 : Int) + (Int.tmod a0 10)))).toNat))) rfl (rowOf_one (s := .empty) (nIn_ok g3_8_1).1 (nIn_ok g3_8_1).2) rfl ?_
          refine WH.ownStr (ByteArray.empty.push (UInt8.ofNat (IntKind.u8.wrap (IntKind.i64.wrap ((48 : Int) + (Int.tmod a0 10)))).toNat)) tt_ok rfl rfl rfl rfl rfl rfl rfl ?_
          refine WH.run 2 tt_ok rfl rfl rfl rfl ⟨(nStr_ok g3_9_1), trivial⟩ ?_
          exact WH.nilF rfl (LessW.mk' ⟨AVle.of rfl, trivial⟩ trivial)
        · refine WH.row 117 (rowOf (ByteArray.empty.push (UInt8.ofNat (IntKind.u8.wrap (IntKind.i64.wrap ((48 : Int) + (Int.tmod a0 10)))).toNat))) rfl (rowOf_one (s := .empty) (nIn_ok g3_8_1).1 (nIn_ok g3_8_1).2) rfl ?_
          refine WH.ownStr (ByteArray.empty.push (UInt8.ofNat (IntKind.u8.wrap (IntKind.i64.wrap ((48 : Int) + (Int.tmod a0 10)))).toNat)) tt_ok rfl rfl rfl rfl rfl rfl rfl ?_
          refine WH.call [] rfl (ref02_Digits_rk_0 _ hx3_2_1) ref02_Digits_rk_f rfl rfl trivial rfl rfl rfl rfl rfl ?_
          refine WH.run 2 tt_ok rfl rfl rfl rfl ⟨(nStr_ok g3_9_1), trivial⟩ ?_
          exact WH.nilF rfl (LessW.mk' ⟨AVle.of rfl, trivial⟩ trivial)
    · refine QT.n ?_
      refine WC.ret ?_
      cases H
      exact Ends.auto rfl rfl rfl trivial
theorem ref02_Digits_0 (a0 : Int) {r : ByteArray} (H : ref02_Digits a0 = some r) : LJ.Spec Tryd.prog 53 [.d (.int .i64 a0)] [] (.d (.str r)) [] := ref02_Digits_r_0 fuel a0 H
theorem ref02_Digits_f : hasFunc Tryd.prog 53 Tryd.f53 := ⟨Tryd.func53, rfl, by kernel_rfl⟩

/-! ### logjam/logjamref09.Int -/
theorem ref09_Int_0 (a0 : Int) {r : ByteArray} (H : ref09_Int a0 = some r) : LJ.Spec Tryd.prog 40 [.d (.int .i64 a0)] [] (.d (.str r)) [] := by
  refine LJ.Spec.code Tryd.func40 rfl 13 rfl rfl [] rfl fun w0 F0 S0 B0 => ?_
  unfold ref09_Int at H
  refine WC.seq ?_
  refine WC.region ?_
  refine WL.run 1 tt_ok sg0 rfl rfl trivial ?_
  refine WL.nil ?_
  refine QT.n ?_
  refine WC.seq ?_
  refine WC.seq ?_
  refine WC.region ?_
  refine WL.run 2 tt_ok sg0 rfl rfl trivial ?_
  refine WL.nil ?_
  refine QT.n ?_
  refine WC.cond rfl (fun h1 => ?_) (fun h1 => ?_)
  · replace H := of_t H h1
    refine WC.seq ?_
    refine WC.region ?_
    refine WL.run 1 tt_ok sg0 rfl rfl trivial ?_
    refine WL.nil ?_
    refine QT.n ?_
    refine WC.ret ?_
    refine QT.r ?_
    cases H
    exact Ends.auto rfl rfl rfl trivial
  replace H := of_f H h1
  refine WC.skip ?_
  refine QT.n ?_
  refine WC.seq ?_
  refine WC.seq ?_
  refine WC.region ?_
  refine WL.run 2 tt_ok sg0 rfl rfl trivial ?_
  refine WL.nil ?_
  refine QT.n ?_
  refine WC.cond rfl (fun h2 => ?_) (fun h2 => ?_)
  · replace H := of_t H h2
    refine WC.seq ?_
    refine WC.region ?_
    refine WL.run 2 tt_ok sg0 rfl rfl trivial ?_
    obtain ⟨x3, hx3, H⟩ := of_bind H
    refine WL.call [] (ref02_Digits_0 _ hx3) ref02_Digits_f rfl rfl trivial rfl rfl rfl ?_
    obtain ⟨g4, H⟩ := of_need H
    refine WL.run 2 tt_ok sg0 rfl rfl ⟨(nStr_ok g4), trivial⟩ ?_
    refine WL.nil ?_
    refine QT.n ?_
    refine WC.ret ?_
    refine QT.r ?_
    cases H
    exact Ends.auto rfl rfl rfl trivial
  replace H := of_f H h2
  refine WC.skip ?_
  refine QT.n ?_
  refine WC.seq ?_
  refine WC.region ?_
  refine WL.run 1 tt_ok sg0 rfl rfl trivial ?_
  obtain ⟨x5, hx5, H⟩ := of_bind H
  refine WL.call [] (ref02_Digits_0 _ hx5) ref02_Digits_f rfl rfl trivial rfl rfl rfl ?_
  refine WL.run 1 tt_ok sg0 rfl rfl trivial ?_
  refine WL.nil ?_
  refine QT.n ?_
  refine WC.ret ?_
  cases H
  exact Ends.auto rfl rfl rfl trivial
theorem ref09_Int_f : hasFunc Tryd.prog 40 Tryd.f40 := ⟨Tryd.func40, rfl, by kernel_rfl⟩

/-! ### logjam/logjamref09.Text -/
theorem ref09_Text_0 (a0 : List (List T_api_Need)) {r : ByteArray} (H : ref09_Text a0 = some r) : LJ.Spec Tryd.prog 20 [.d (slT enc_sl_api_Need a0)] [] (.d (.str r)) [] := by
  refine LJ.Spec.code Tryd.func20 rfl 74 rfl rfl [] rfl fun w0 F0 S0 B0 => ?_
  unfold ref09_Text at H
  refine WC.seq ?_
  refine WC.region ?_
  refine WL.run 1 tt_ok sg0 rfl rfl trivial ?_
  refine WL.nil ?_
  refine QT.n ?_
  refine WC.seq ?_
  refine WC.region ?_
  refine WL.eff 109 tt_ok et_ok eg0 rfl rfl rfl trivial ?_
  refine WL.freezeT 109 enc_str ([(⟨#[110, 111, 110, 101]⟩ : ByteArray), (⟨#[108, 111, 99, 107]⟩ : ByteArray), (⟨#[114, 101, 97, 100]⟩ : ByteArray), (⟨#[119, 114, 105, 116, 101]⟩ : ByteArray), (⟨#[100, 111, 119, 110]⟩ : ByteArray), (⟨#[116, 97, 107, 101]⟩ : ByteArray)] : List ByteArray) rfl rfl rfl rfl ?_
  refine WL.run 2 tt_ok sg0 rfl rfl trivial ?_
  refine WL.nil ?_
  refine QT.n ?_
  refine WC.seq ?_
  refine WC.seq ?_
  refine WC.region ?_
  refine WL.run 1 tt_ok sg0 rfl rfl trivial ?_
  refine WL.nil ?_
  refine QT.n ?_
  refine WC.block ?_
  refine WC.loop (ι := {x : Nat × (ByteArray × Int) // ref09_Text_l2 a0 x.1 x.2 = some r}) (fun x => [(0, .d (slT enc_sl_api_Need a0)), (3, .d (slT enc_str ([(⟨#[110, 111, 110, 101]⟩ : ByteArray), (⟨#[108, 111, 99, 107]⟩ : ByteArray), (⟨#[114, 101, 97, 100]⟩ : ByteArray), (⟨#[119, 114, 105, 116, 101]⟩ : ByteArray), (⟨#[100, 111, 119, 110]⟩ : ByteArray), (⟨#[116, 97, 107, 101]⟩ : ByteArray)] : List ByteArray))), (4, .d (.str x.1.2.1)), (5, .d (.int .i64 x.1.2.2))]) (fun x => []) (fun x => x.1.1) ⟨(fuel, (ByteArray.empty, 0)), H⟩ (Less.mk' ⟨rfl, rfl, rfl, rfl, trivial⟩ trivial) fun x => ?_
  obtain ⟨⟨k2, s1⟩, H⟩ := x
  rcases k2 with _ | k2
  · exact of_none H
  rw [ref09_Text_l2] at H
  refine WC.seq ?_
  refine WC.seq ?_
  refine WC.region ?_
  refine WL.run 4 tt_ok sg0 rfl rfl trivial ?_
  refine WL.nil ?_
  refine QT.n ?_
  refine WC.cond rfl (fun h3 => ?_) (fun h3 => ?_)
  · replace H := of_t H h3
    refine WC.skip ?_
    refine QT.n ?_
    obtain ⟨K4, hK4, H⟩ := of_withK H
    refine WC.cut (fun E m => ∃ s5 : ByteArray, K4 s5 = some r ∧ LessW E m [(0, .d (slT enc_sl_api_Need a0)), (3, .d (slT enc_str ([(⟨#[110, 111, 110, 101]⟩ : ByteArray), (⟨#[108, 111, 99, 107]⟩ : ByteArray), (⟨#[114, 101, 97, 100]⟩ : ByteArray), (⟨#[119, 114, 105, 116, 101]⟩ : ByteArray), (⟨#[100, 111, 119, 110]⟩ : ByteArray), (⟨#[116, 97, 107, 101]⟩ : ByteArray)] : List ByteArray))), (4, .d (.str s5)), (5, .d (.int .i64 s1.2))] []) ?_ ?_
    · refine WC.block ?_
      refine WC.seq ?_
      refine WC.seq ?_
      refine WC.region ?_
      refine WL.run 2 tt_ok sg0 rfl rfl trivial ?_
      refine WL.nil ?_
      refine QT.n ?_
      refine WC.cond rfl (fun h6 => ?_) (fun h6 => ?_)
      · replace H := of_t H h6
        refine WC.region ?_
        obtain ⟨g7, H⟩ := of_need H
        refine WL.run 3 tt_ok sg0 rfl rfl ⟨(nStr_ok g7), trivial⟩ ?_
        refine WL.nil ?_
        refine QT.n ?_
        refine WC.seq ?_
        refine WC.region ?_
        refine WL.run 1 tt_ok sg0 rfl rfl trivial ?_
        refine WL.nil ?_
        refine QT.n ?_
        refine WC.block ?_
        refine WC.loop (ι := {x : Nat × (ByteArray × Int) // ref09_Text_l9 a0 s1 K4 x.1 x.2 = some r}) (fun x => [(0, .d (slT enc_sl_api_Need a0)), (3, .d (slT enc_str ([(⟨#[110, 111, 110, 101]⟩ : ByteArray), (⟨#[108, 111, 99, 107]⟩ : ByteArray), (⟨#[114, 101, 97, 100]⟩ : ByteArray), (⟨#[119, 114, 105, 116, 101]⟩ : ByteArray), (⟨#[100, 111, 119, 110]⟩ : ByteArray), (⟨#[116, 97, 107, 101]⟩ : ByteArray)] : List ByteArray))), (4, .d (.str x.1.2.1)), (5, .d (.int .i64 s1.2)), (6, .d (.int .i64 x.1.2.2))]) (fun x => []) (fun x => x.1.1) ⟨(fuel, (s1.1 ++ (⟨#[32, 124, 32]⟩ : ByteArray), 0)), H⟩ (Less.mk' ⟨rfl, rfl, rfl, rfl, rfl, trivial⟩ trivial) fun x => ?_
        obtain ⟨⟨k9, s8⟩, H⟩ := x
        rcases k9 with _ | k9
        · exact of_none H
        rw [ref09_Text_l9] at H
        refine WC.seq ?_
        refine WC.seq ?_
        refine WC.region ?_
        obtain ⟨g10, H⟩ := of_need H
        refine WL.run 7 tt_ok sg0 rfl rfl ⟨⟨(nIn_ok g10).1, (nIn_ok g10).2, rfl⟩, trivial⟩ ?_
        refine WL.nil ?_
        refine QT.n ?_
        refine WC.cond rfl (fun h11 => ?_) (fun h11 => ?_)
        · replace H := of_t H h11
          refine WC.skip ?_
          refine QT.n ?_
          refine WC.seq ?_
          refine WC.block ?_
          refine WC.seq ?_
          refine WC.heldP (.one 0 true (.one 1 true (.one 2 true (.one 3 true (.one 4 true (.one 5 true (.one 6 true (.one 7 true (.one 8 true (.one 9 true (.one 10 true (.one 11 true (.one 12 true (.one 13 true (.one 14 true (.one 15 false (.one 16 false (.one 17 true .done)))))))))))))))))) [] [] rfl (by kernel_rfl) rfl (by kernel_rfl) rfl rfl (fun _ h => h) rfl rfl rfl (fun _ _ _ h => h) fun FK NK wK K => ?_
          obtain ⟨g12, H⟩ := of_need H
          obtain ⟨g13, H⟩ := of_need H
          obtain ⟨g14, H⟩ := of_need H
          obtain ⟨g15, H⟩ := of_need H
          refine WH.run 15 tt_ok rfl rfl rfl rfl ⟨⟨(nIn_ok g12).1, (nIn_ok g12).2, rfl⟩, ⟨(nIn_ok g13).1, (nIn_ok g13).2, rfl⟩, ⟨(nIn_ok g14).1, (nIn_ok g14).2, rfl⟩, ⟨(nIn_ok g15).1, (nIn_ok g15).2, rfl⟩, trivial⟩ ?_
          refine WH.alloc 107 tt_ok rfl rfl rfl rfl rfl rfl ?_
          refine WH.eff 0 tt_ok et_ok rfl rfl rfl rfl trivial rfl rfl ?_
          refine WH.run 1 tt_ok rfl rfl rfl rfl trivial ?_
          refine WH.nil rfl ?_
          refine QT.n ?_
          refine WC.seq ?_
          refine WC.seq ?_
          refine WC.region ?_
          refine WL.run 3 tt_ok sg0 rfl rfl trivial ?_
          refine WL.sect 2 2 false tt_ok sg0 rfl rfl (fun _ => trivial) ?_
          refine WL.run 1 tt_ok sg0 rfl rfl ⟨by first | exact id | exact fun h => by rw [h]; rfl | simp_all, trivial⟩ ?_
          refine WL.nil ?_
          refine QT.n ?_
          refine WC.cond rfl (fun h16 => ?_) (fun h16 => ?_)
          · replace H := of_t H h16
            refine WC.region ?_
            refine WL.run 1 tt_ok sg0 rfl rfl trivial ?_
            refine WL.nil ?_
            refine QT.n ?_
            refine WC.seq ?_
            refine WC.seq ?_
            refine WC.region ?_
            refine WL.run 2 tt_ok sg0 rfl rfl trivial ?_
            refine WL.nil ?_
            refine QT.n ?_
            refine WC.cond rfl (fun h17 => ?_) (fun h17 => ?_)
            · replace H := of_t H h17
              refine WC.region ?_
              obtain ⟨g18, H⟩ := of_need H
              refine WL.run 3 tt_ok sg0 rfl rfl ⟨(nStr_ok g18), trivial⟩ ?_
              refine WL.nil ?_
              refine QT.n ?_
              refine WC.seq ?_
              refine WC.heldP (.one 0 true (.one 1 true (.one 2 true (.one 3 true (.one 4 true (.one 5 true (.one 6 true (.one 7 true (.one 8 true (.one 9 false (.one 10 true (.one 11 true .done)))))))))))) [107] [107] rfl (by kernel_rfl) rfl (by kernel_rfl) rfl rfl (fun _ h => h) rfl rfl rfl (fun _ _ _ h => h) fun FK NK wK K => ?_
              obtain ⟨g19, H⟩ := of_need H
              obtain ⟨g20, H⟩ := of_need H
              obtain ⟨g21, H⟩ := of_need H
              refine WH.run 9 tt_ok rfl rfl rfl rfl ⟨⟨(nIn_ok g19).1, (nIn_ok g19).2, rfl⟩, (nStr_ok g20), (nStr_ok g21), trivial⟩ ?_
              obtain ⟨x22, hx22, H⟩ := of_bind H
              refine WH.call [] rfl (ref09_Int_0 _ hx22) ref09_Int_f rfl rfl trivial rfl rfl rfl rfl rfl ?_
              obtain ⟨g23, H⟩ := of_need H
              refine WH.run 2 tt_ok rfl rfl rfl rfl ⟨(nStr_ok g23), trivial⟩ ?_
              refine WH.nil rfl ?_
              refine QT.n ?_
              refine WC.seq ?_
              refine WC.region ?_
              refine WL.run 2 tt_ok sg0 rfl rfl trivial ?_
              refine WL.nil ?_
              refine QT.n ?_
              refine WC.cond rfl (fun h => absurd h (by decide)) (fun h => ?_)
              refine WC.skip ?_
              refine QB.n (QT.n ?_)
              refine WC.region ?_
              refine WL.run 3 tt_ok sg0 rfl rfl trivial ?_
              refine WL.nil ?_
              refine QT.n ?_
              exact ⟨⟨(k9, ((((s8.1 ++ (⟨#[32, 43, 32]⟩ : ByteArray)) ++ (([(⟨#[110, 111, 110, 101]⟩ : ByteArray), (⟨#[108, 111, 99, 107]⟩ : ByteArray), (⟨#[114, 101, 97, 100]⟩ : ByteArray), (⟨#[119, 114, 105, 116, 101]⟩ : ByteArray), (⟨#[100, 111, 119, 110]⟩ : ByteArray), (⟨#[116, 97, 107, 101]⟩ : ByteArray)] : List ByteArray).getD (0 : Int).toNat default)) ++ (⟨#[32]⟩ : ByteArray)) ++ x22, IntKind.i64.wrap (s8.2 + 1))), H⟩, Nat.lt_succ_self _, Less.mk' ⟨rfl, rfl, rfl, rfl, rfl, trivial⟩ trivial⟩
            replace H := of_f H h17
            refine WC.skip ?_
            refine QT.n ?_
            refine WC.seq ?_
            refine WC.heldP (.one 0 true (.one 1 true (.one 2 true (.one 3 true (.one 4 true (.one 5 true (.one 6 true (.one 7 true (.one 8 true (.one 9 false (.one 10 true (.one 11 true .done)))))))))))) [107] [107] rfl (by kernel_rfl) rfl (by kernel_rfl) rfl rfl (fun _ h => h) rfl rfl rfl (fun _ _ _ h => h) fun FK NK wK K => ?_
            obtain ⟨g24, H⟩ := of_need H
            obtain ⟨g25, H⟩ := of_need H
            obtain ⟨g26, H⟩ := of_need H
            refine WH.run 9 tt_ok rfl rfl rfl rfl ⟨⟨(nIn_ok g24).1, (nIn_ok g24).2, rfl⟩, (nStr_ok g25), (nStr_ok g26), trivial⟩ ?_
            obtain ⟨x27, hx27, H⟩ := of_bind H
            refine WH.call [] rfl (ref09_Int_0 _ hx27) ref09_Int_f rfl rfl trivial rfl rfl rfl rfl rfl ?_
            obtain ⟨g28, H⟩ := of_need H
            refine WH.run 2 tt_ok rfl rfl rfl rfl ⟨(nStr_ok g28), trivial⟩ ?_
            refine WH.nil rfl ?_
            refine QT.n ?_
            refine WC.seq ?_
            refine WC.region ?_
            refine WL.run 2 tt_ok sg0 rfl rfl trivial ?_
            refine WL.nil ?_
            refine QT.n ?_
            refine WC.cond rfl (fun h => absurd h (by decide)) (fun h => ?_)
            refine WC.skip ?_
            refine QB.n (QT.n ?_)
            refine WC.region ?_
            refine WL.run 3 tt_ok sg0 rfl rfl trivial ?_
            refine WL.nil ?_
            refine QT.n ?_
            exact ⟨⟨(k9, (((s8.1 ++ (([(⟨#[110, 111, 110, 101]⟩ : ByteArray), (⟨#[108, 111, 99, 107]⟩ : ByteArray), (⟨#[114, 101, 97, 100]⟩ : ByteArray), (⟨#[119, 114, 105, 116, 101]⟩ : ByteArray), (⟨#[100, 111, 119, 110]⟩ : ByteArray), (⟨#[116, 97, 107, 101]⟩ : ByteArray)] : List ByteArray).getD (0 : Int).toNat default)) ++ (⟨#[32]⟩ : ByteArray)) ++ x27, IntKind.i64.wrap (s8.2 + 1))), H⟩, Nat.lt_succ_self _, Less.mk' ⟨rfl, rfl, rfl, rfl, rfl, trivial⟩ trivial⟩
          replace H := of_f H h16
          refine WC.skip ?_
          refine QT.n ?_
          refine WC.seq ?_
          refine WC.seq ?_
          refine WC.region ?_
          refine WL.run 2 tt_ok sg0 rfl rfl trivial ?_
          refine WL.nil ?_
          refine QT.n ?_
          refine WC.cond rfl (fun h29 => ?_) (fun h29 => ?_)
          · replace H := of_t H h29
            refine WC.region ?_
            obtain ⟨g30, H⟩ := of_need H
            refine WL.run 3 tt_ok sg0 rfl rfl ⟨(nStr_ok g30), trivial⟩ ?_
            refine WL.nil ?_
            refine QT.n ?_
            refine WC.seq ?_
            refine WC.heldP (.one 0 true (.one 1 true (.one 2 true (.one 3 true (.one 4 true (.one 5 true (.one 6 true (.one 7 true (.one 8 true (.one 9 false (.one 10 true (.one 11 true .done)))))))))))) [107] [107] rfl (by kernel_rfl) rfl (by kernel_rfl) rfl rfl (fun _ h => h) rfl rfl rfl (fun _ _ _ h => h) fun FK NK wK K => ?_
            obtain ⟨g31, H⟩ := of_need H
            obtain ⟨g32, H⟩ := of_need H
            obtain ⟨g33, H⟩ := of_need H
            refine WH.run 9 tt_ok rfl rfl rfl rfl ⟨⟨(nIn_ok g31).1, (nIn_ok g31).2, rfl⟩, (nStr_ok g32), (nStr_ok g33), trivial⟩ ?_
            obtain ⟨x34, hx34, H⟩ := of_bind H
            refine WH.call [] rfl (ref09_Int_0 _ hx34) ref09_Int_f rfl rfl trivial rfl rfl rfl rfl rfl ?_
            obtain ⟨g35, H⟩ := of_need H
            refine WH.run 2 tt_ok rfl rfl rfl rfl ⟨(nStr_ok g35), trivial⟩ ?_
            refine WH.nil rfl ?_
            refine QT.n ?_
            refine WC.seq ?_
            refine WC.region ?_
            refine WL.run 2 tt_ok sg0 rfl rfl trivial ?_
            refine WL.nil ?_
            refine QT.n ?_
            refine WC.cond rfl (fun h36 => ?_) (fun h36 => ?_)
            · replace H := of_t H h36
              refine WC.region ?_
              obtain ⟨g37, H⟩ := of_need H
              refine WL.run 4 tt_ok sg0 rfl rfl ⟨(nStr_ok g37), trivial⟩ ?_
              obtain ⟨x38, hx38, H⟩ := of_bind H
              refine WL.call [] (ref09_Int_0 _ hx38) ref09_Int_f rfl rfl trivial rfl rfl rfl ?_
              obtain ⟨g39, H⟩ := of_need H
              refine WL.run 2 tt_ok sg0 rfl rfl ⟨(nStr_ok g39), trivial⟩ ?_
              refine WL.nil ?_
              refine QB.n (QT.n ?_)
              refine WC.region ?_
              refine WL.run 3 tt_ok sg0 rfl rfl trivial ?_
              refine WL.nil ?_
              refine QT.n ?_
              exact ⟨⟨(k9, ((((((s8.1 ++ (⟨#[32, 43, 32]⟩ : ByteArray)) ++ (([(⟨#[110, 111, 110, 101]⟩ : ByteArray), (⟨#[108, 111, 99, 107]⟩ : ByteArray), (⟨#[114, 101, 97, 100]⟩ : ByteArray), (⟨#[119, 114, 105, 116, 101]⟩ : ByteArray), (⟨#[100, 111, 119, 110]⟩ : ByteArray), (⟨#[116, 97, 107, 101]⟩ : ByteArray)] : List ByteArray).getD (((a0.getD s1.2.toNat default).getD s8.2.toNat default).Kind).toNat default)) ++ (⟨#[32]⟩ : ByteArray)) ++ x34) ++ (⟨#[58]⟩ : ByteArray)) ++ x38, IntKind.i64.wrap (s8.2 + 1))), H⟩, Nat.lt_succ_self _, Less.mk' ⟨rfl, rfl, rfl, rfl, rfl, trivial⟩ trivial⟩
            replace H := of_f H h36
            refine WC.skip ?_
            refine QB.n (QT.n ?_)
            refine WC.region ?_
            refine WL.run 3 tt_ok sg0 rfl rfl trivial ?_
            refine WL.nil ?_
            refine QT.n ?_
            exact ⟨⟨(k9, ((((s8.1 ++ (⟨#[32, 43, 32]⟩ : ByteArray)) ++ (([(⟨#[110, 111, 110, 101]⟩ : ByteArray), (⟨#[108, 111, 99, 107]⟩ : ByteArray), (⟨#[114, 101, 97, 100]⟩ : ByteArray), (⟨#[119, 114, 105, 116, 101]⟩ : ByteArray), (⟨#[100, 111, 119, 110]⟩ : ByteArray), (⟨#[116, 97, 107, 101]⟩ : ByteArray)] : List ByteArray).getD (((a0.getD s1.2.toNat default).getD s8.2.toNat default).Kind).toNat default)) ++ (⟨#[32]⟩ : ByteArray)) ++ x34, IntKind.i64.wrap (s8.2 + 1))), H⟩, Nat.lt_succ_self _, Less.mk' ⟨rfl, rfl, rfl, rfl, rfl, trivial⟩ trivial⟩
          replace H := of_f H h29
          refine WC.skip ?_
          refine QT.n ?_
          refine WC.seq ?_
          refine WC.heldP (.one 0 true (.one 1 true (.one 2 true (.one 3 true (.one 4 true (.one 5 true (.one 6 true (.one 7 true (.one 8 true (.one 9 false (.one 10 true (.one 11 true .done)))))))))))) [107] [107] rfl (by kernel_rfl) rfl (by kernel_rfl) rfl rfl (fun _ h => h) rfl rfl rfl (fun _ _ _ h => h) fun FK NK wK K => ?_
          obtain ⟨g40, H⟩ := of_need H
          obtain ⟨g41, H⟩ := of_need H
          obtain ⟨g42, H⟩ := of_need H
          refine WH.run 9 tt_ok rfl rfl rfl rfl ⟨⟨(nIn_ok g40).1, (nIn_ok g40).2, rfl⟩, (nStr_ok g41), (nStr_ok g42), trivial⟩ ?_
          obtain ⟨x43, hx43, H⟩ := of_bind H
          refine WH.call [] rfl (ref09_Int_0 _ hx43) ref09_Int_f rfl rfl trivial rfl rfl rfl rfl rfl ?_
          obtain ⟨g44, H⟩ := of_need H
          refine WH.run 2 tt_ok rfl rfl rfl rfl ⟨(nStr_ok g44), trivial⟩ ?_
          refine WH.nil rfl ?_
          refine QT.n ?_
          refine WC.seq ?_
          refine WC.region ?_
          refine WL.run 2 tt_ok sg0 rfl rfl trivial ?_
          refine WL.nil ?_
          refine QT.n ?_
          refine WC.cond rfl (fun h45 => ?_) (fun h45 => ?_)
          · replace H := of_t H h45
            refine WC.region ?_
            obtain ⟨g46, H⟩ := of_need H
            refine WL.run 4 tt_ok sg0 rfl rfl ⟨(nStr_ok g46), trivial⟩ ?_
            obtain ⟨x47, hx47, H⟩ := of_bind H
            refine WL.call [] (ref09_Int_0 _ hx47) ref09_Int_f rfl rfl trivial rfl rfl rfl ?_
            obtain ⟨g48, H⟩ := of_need H
            refine WL.run 2 tt_ok sg0 rfl rfl ⟨(nStr_ok g48), trivial⟩ ?_
            refine WL.nil ?_
            refine QB.n (QT.n ?_)
            refine WC.region ?_
            refine WL.run 3 tt_ok sg0 rfl rfl trivial ?_
            refine WL.nil ?_
            refine QT.n ?_
            exact ⟨⟨(k9, (((((s8.1 ++ (([(⟨#[110, 111, 110, 101]⟩ : ByteArray), (⟨#[108, 111, 99, 107]⟩ : ByteArray), (⟨#[114, 101, 97, 100]⟩ : ByteArray), (⟨#[119, 114, 105, 116, 101]⟩ : ByteArray), (⟨#[100, 111, 119, 110]⟩ : ByteArray), (⟨#[116, 97, 107, 101]⟩ : ByteArray)] : List ByteArray).getD (((a0.getD s1.2.toNat default).getD s8.2.toNat default).Kind).toNat default)) ++ (⟨#[32]⟩ : ByteArray)) ++ x43) ++ (⟨#[58]⟩ : ByteArray)) ++ x47, IntKind.i64.wrap (s8.2 + 1))), H⟩, Nat.lt_succ_self _, Less.mk' ⟨rfl, rfl, rfl, rfl, rfl, trivial⟩ trivial⟩
          replace H := of_f H h45
          refine WC.skip ?_
          refine QB.n (QT.n ?_)
          refine WC.region ?_
          refine WL.run 3 tt_ok sg0 rfl rfl trivial ?_
          refine WL.nil ?_
          refine QT.n ?_
          exact ⟨⟨(k9, (((s8.1 ++ (([(⟨#[110, 111, 110, 101]⟩ : ByteArray), (⟨#[108, 111, 99, 107]⟩ : ByteArray), (⟨#[114, 101, 97, 100]⟩ : ByteArray), (⟨#[119, 114, 105, 116, 101]⟩ : ByteArray), (⟨#[100, 111, 119, 110]⟩ : ByteArray), (⟨#[116, 97, 107, 101]⟩ : ByteArray)] : List ByteArray).getD (((a0.getD s1.2.toNat default).getD s8.2.toNat default).Kind).toNat default)) ++ (⟨#[32]⟩ : ByteArray)) ++ x43, IntKind.i64.wrap (s8.2 + 1))), H⟩, Nat.lt_succ_self _, Less.mk' ⟨rfl, rfl, rfl, rfl, rfl, trivial⟩ trivial⟩
        replace H := of_f H h11
        refine WC.exit ?_
        refine QT.x (QT.x (QB.hit (QB.n (QT.n ?_))))
        exact ⟨s8.1, H, LessW.mk' ⟨AVle.of rfl, AVle.of rfl, AVle.of rfl, AVle.of rfl, trivial⟩ trivial⟩
      replace H := of_f H h6
      refine WC.skip ?_
      refine QT.n ?_
      refine WC.seq ?_
      refine WC.region ?_
      refine WL.run 1 tt_ok sg0 rfl rfl trivial ?_
      refine WL.nil ?_
      refine QT.n ?_
      refine WC.block ?_
      refine WC.loop (ι := {x : Nat × (ByteArray × Int) // ref09_Text_l50 a0 s1 K4 x.1 x.2 = some r}) (fun x => [(0, .d (slT enc_sl_api_Need a0)), (3, .d (slT enc_str ([(⟨#[110, 111, 110, 101]⟩ : ByteArray), (⟨#[108, 111, 99, 107]⟩ : ByteArray), (⟨#[114, 101, 97, 100]⟩ : ByteArray), (⟨#[119, 114, 105, 116, 101]⟩ : ByteArray), (⟨#[100, 111, 119, 110]⟩ : ByteArray), (⟨#[116, 97, 107, 101]⟩ : ByteArray)] : List ByteArray))), (4, .d (.str x.1.2.1)), (5, .d (.int .i64 s1.2)), (6, .d (.int .i64 x.1.2.2))]) (fun x => []) (fun x => x.1.1) ⟨(fuel, (s1.1, 0)), H⟩ (Less.mk' ⟨rfl, rfl, rfl, rfl, rfl, trivial⟩ trivial) fun x => ?_
      obtain ⟨⟨k50, s49⟩, H⟩ := x
      rcases k50 with _ | k50
      · exact of_none H
      rw [ref09_Text_l50] at H
      refine WC.seq ?_
      refine WC.seq ?_
      refine WC.region ?_
      obtain ⟨g51, H⟩ := of_need H
      refine WL.run 7 tt_ok sg0 rfl rfl ⟨⟨(nIn_ok g51).1, (nIn_ok g51).2, rfl⟩, trivial⟩ ?_
      refine WL.nil ?_
      refine QT.n ?_
      refine WC.cond rfl (fun h52 => ?_) (fun h52 => ?_)
      · replace H := of_t H h52
        refine WC.skip ?_
        refine QT.n ?_
        refine WC.seq ?_
        refine WC.block ?_
        refine WC.seq ?_
        refine WC.heldP (.one 0 true (.one 1 true (.one 2 true (.one 3 true (.one 4 true (.one 5 true (.one 6 true (.one 7 true (.one 8 true (.one 9 true (.one 10 true (.one 11 true (.one 12 true (.one 13 true (.one 14 true (.one 15 false (.one 16 false (.one 17 true .done)))))))))))))))))) [] [] rfl (by kernel_rfl) rfl (by kernel_rfl) rfl rfl (fun _ h => h) rfl rfl rfl (fun _ _ _ h => h) fun FK NK wK K => ?_
        obtain ⟨g53, H⟩ := of_need H
        obtain ⟨g54, H⟩ := of_need H
        obtain ⟨g55, H⟩ := of_need H
        obtain ⟨g56, H⟩ := of_need H
        refine WH.run 15 tt_ok rfl rfl rfl rfl ⟨⟨(nIn_ok g53).1, (nIn_ok g53).2, rfl⟩, ⟨(nIn_ok g54).1, (nIn_ok g54).2, rfl⟩, ⟨(nIn_ok g55).1, (nIn_ok g55).2, rfl⟩, ⟨(nIn_ok g56).1, (nIn_ok g56).2, rfl⟩, trivial⟩ ?_
        refine WH.alloc 107 tt_ok rfl rfl rfl rfl rfl rfl ?_
        refine WH.eff 0 tt_ok et_ok rfl rfl rfl rfl trivial rfl rfl ?_
        refine WH.run 1 tt_ok rfl rfl rfl rfl trivial ?_
        refine WH.nil rfl ?_
        refine QT.n ?_
        refine WC.seq ?_
        refine WC.seq ?_
        refine WC.region ?_
        refine WL.run 3 tt_ok sg0 rfl rfl trivial ?_
        refine WL.sect 2 2 false tt_ok sg0 rfl rfl (fun _ => trivial) ?_
        refine WL.run 1 tt_ok sg0 rfl rfl ⟨by first | exact id | exact fun h => by rw [h]; rfl | simp_all, trivial⟩ ?_
        refine WL.nil ?_
        refine QT.n ?_
        refine WC.cond rfl (fun h57 => ?_) (fun h57 => ?_)
        · replace H := of_t H h57
          refine WC.region ?_
          refine WL.run 1 tt_ok sg0 rfl rfl trivial ?_
          refine WL.nil ?_
          refine QT.n ?_
          refine WC.seq ?_
          refine WC.seq ?_
          refine WC.region ?_
          refine WL.run 2 tt_ok sg0 rfl rfl trivial ?_
          refine WL.nil ?_
          refine QT.n ?_
          refine WC.cond rfl (fun h58 => ?_) (fun h58 => ?_)
          · replace H := of_t H h58
            refine WC.region ?_
            obtain ⟨g59, H⟩ := of_need H
            refine WL.run 3 tt_ok sg0 rfl rfl ⟨(nStr_ok g59), trivial⟩ ?_
            refine WL.nil ?_
            refine QT.n ?_
            refine WC.seq ?_
            refine WC.heldP (.one 0 true (.one 1 true (.one 2 true (.one 3 true (.one 4 true (.one 5 true (.one 6 true (.one 7 true (.one 8 true (.one 9 false (.one 10 true (.one 11 true .done)))))))))))) [107] [107] rfl (by kernel_rfl) rfl (by kernel_rfl) rfl rfl (fun _ h => h) rfl rfl rfl (fun _ _ _ h => h) fun FK NK wK K => ?_
            obtain ⟨g60, H⟩ := of_need H
            obtain ⟨g61, H⟩ := of_need H
            obtain ⟨g62, H⟩ := of_need H
            refine WH.run 9 tt_ok rfl rfl rfl rfl ⟨⟨(nIn_ok g60).1, (nIn_ok g60).2, rfl⟩, (nStr_ok g61), (nStr_ok g62), trivial⟩ ?_
            obtain ⟨x63, hx63, H⟩ := of_bind H
            refine WH.call [] rfl (ref09_Int_0 _ hx63) ref09_Int_f rfl rfl trivial rfl rfl rfl rfl rfl ?_
            obtain ⟨g64, H⟩ := of_need H
            refine WH.run 2 tt_ok rfl rfl rfl rfl ⟨(nStr_ok g64), trivial⟩ ?_
            refine WH.nil rfl ?_
            refine QT.n ?_
            refine WC.seq ?_
            refine WC.region ?_
            refine WL.run 2 tt_ok sg0 rfl rfl trivial ?_
            refine WL.nil ?_
            refine QT.n ?_
            refine WC.cond rfl (fun h => absurd h (by decide)) (fun h => ?_)
            refine WC.skip ?_
            refine QB.n (QT.n ?_)
            refine WC.region ?_
            refine WL.run 3 tt_ok sg0 rfl rfl trivial ?_
            refine WL.nil ?_
            refine QT.n ?_
            exact ⟨⟨(k50, ((((s49.1 ++ (⟨#[32, 43, 32]⟩ : ByteArray)) ++ (([(⟨#[110, 111, 110, 101]⟩ : ByteArray), (⟨#[108, 111, 99, 107]⟩ : ByteArray), (⟨#[114, 101, 97, 100]⟩ : ByteArray), (⟨#[119, 114, 105, 116, 101]⟩ : ByteArray), (⟨#[100, 111, 119, 110]⟩ : ByteArray), (⟨#[116, 97, 107, 101]⟩ : ByteArray)] : List ByteArray).getD (0 : Int).toNat default)) ++ (⟨#[32]⟩ : ByteArray)) ++ x63, IntKind.i64.wrap (s49.2 + 1))), H⟩, Nat.lt_succ_self _, Less.mk' ⟨rfl, rfl, rfl, rfl, rfl, trivial⟩ trivial⟩
          replace H := of_f H h58
          refine WC.skip ?_
          refine QT.n ?_
          refine WC.seq ?_
          refine WC.heldP (.one 0 true (.one 1 true (.one 2 true (.one 3 true (.one 4 true (.one 5 true (.one 6 true (.one 7 true (.one 8 true (.one 9 false (.one 10 true (.one 11 true .done)))))))))))) [107] [107] rfl (by kernel_rfl) rfl (by kernel_rfl) rfl rfl (fun _ h => h) rfl rfl rfl (fun _ _ _ h => h) fun FK NK wK K => ?_
          obtain ⟨g65, H⟩ := of_need H
          obtain ⟨g66, H⟩ := of_need H
          obtain ⟨g67, H⟩ := of_need H
          refine WH.run 9 tt_ok rfl rfl rfl rfl ⟨⟨(nIn_ok g65).1, (nIn_ok g65).2, rfl⟩, (nStr_ok g66), (nStr_ok g67), trivial⟩ ?_
          obtain ⟨x68, hx68, H⟩ := of_bind H
          refine WH.call [] rfl (ref09_Int_0 _ hx68) ref09_Int_f rfl rfl trivial rfl rfl rfl rfl rfl ?_
          obtain ⟨g69, H⟩ := of_need H
          refine WH.run 2 tt_ok rfl rfl rfl rfl ⟨(nStr_ok g69), trivial⟩ ?_
          refine WH.nil rfl ?_
          refine QT.n ?_
          refine WC.seq ?_
          refine WC.region ?_
          refine WL.run 2 tt_ok sg0 rfl rfl trivial ?_
          refine WL.nil ?_
          refine QT.n ?_
          refine WC.cond rfl (fun h => absurd h (by decide)) (fun h => ?_)
          refine WC.skip ?_
          refine QB.n (QT.n ?_)
          refine WC.region ?_
          refine WL.run 3 tt_ok sg0 rfl rfl trivial ?_
          refine WL.nil ?_
          refine QT.n ?_
          exact ⟨⟨(k50, (((s49.1 ++ (([(⟨#[110, 111, 110, 101]⟩ : ByteArray), (⟨#[108, 111, 99, 107]⟩ : ByteArray), (⟨#[114, 101, 97, 100]⟩ : ByteArray), (⟨#[119, 114, 105, 116, 101]⟩ : ByteArray), (⟨#[100, 111, 119, 110]⟩ : ByteArray), (⟨#[116, 97, 107, 101]⟩ : ByteArray)] : List ByteArray).getD (0 : Int).toNat default)) ++ (⟨#[32]⟩ : ByteArray)) ++ x68, IntKind.i64.wrap (s49.2 + 1))), H⟩, Nat.lt_succ_self _, Less.mk' ⟨rfl, rfl, rfl, rfl, rfl, trivial⟩ trivial⟩
        replace H := of_f H h57
        refine WC.skip ?_
        refine QT.n ?_
        refine WC.seq ?_
        refine WC.seq ?_
        refine WC.region ?_
        refine WL.run 2 tt_ok sg0 rfl rfl trivial ?_
        refine WL.nil ?_
        refine QT.n ?_
        refine WC.cond rfl (fun h70 => ?_) (fun h70 => ?_)
        · replace H := of_t H h70
          refine WC.region ?_
          obtain ⟨g71, H⟩ := of_need H
          refine WL.run 3 tt_ok sg0 rfl rfl ⟨(nStr_ok g71), trivial⟩ ?_
          refine WL.nil ?_
          refine QT.n ?_
          refine WC.seq ?_
          refine WC.heldP (.one 0 true (.one 1 true (.one 2 true (.one 3 true (.one 4 true (.one 5 true (.one 6 true (.one 7 true (.one 8 true (.one 9 false (.one 10 true (.one 11 true .done)))))))))))) [107] [107] rfl (by kernel_rfl) rfl (by kernel_rfl) rfl rfl (fun _ h => h) rfl rfl rfl (fun _ _ _ h => h) fun FK NK wK K => ?_
          obtain ⟨g72, H⟩ := of_need H
          obtain ⟨g73, H⟩ := of_need H
          obtain ⟨g74, H⟩ := of_need H
          refine WH.run 9 tt_ok rfl rfl rfl rfl ⟨⟨(nIn_ok g72).1, (nIn_ok g72).2, rfl⟩, (nStr_ok g73), (nStr_ok g74), trivial⟩ ?_
          obtain ⟨x75, hx75, H⟩ := of_bind H
          refine WH.call [] rfl (ref09_Int_0 _ hx75) ref09_Int_f rfl rfl trivial rfl rfl rfl rfl rfl ?_
          obtain ⟨g76, H⟩ := of_need H
          refine WH.run 2 tt_ok rfl rfl rfl rfl ⟨(nStr_ok g76), trivial⟩ ?_
          refine WH.nil rfl ?_
          refine QT.n ?_
          refine WC.seq ?_
          refine WC.region ?_
          refine WL.run 2 tt_ok sg0 rfl rfl trivial ?_
          refine WL.nil ?_
          refine QT.n ?_
          refine WC.cond rfl (fun h77 => ?_) (fun h77 => ?_)
          · replace H := of_t H h77
            refine WC.region ?_
            obtain ⟨g78, H⟩ := of_need H
            refine WL.run 4 tt_ok sg0 rfl rfl ⟨(nStr_ok g78), trivial⟩ ?_
            obtain ⟨x79, hx79, H⟩ := of_bind H
            refine WL.call [] (ref09_Int_0 _ hx79) ref09_Int_f rfl rfl trivial rfl rfl rfl ?_
            obtain ⟨g80, H⟩ := of_need H
            refine WL.run 2 tt_ok sg0 rfl rfl ⟨(nStr_ok g80), trivial⟩ ?_
            refine WL.nil ?_
            refine QB.n (QT.n ?_)
            refine WC.region ?_
            refine WL.run 3 tt_ok sg0 rfl rfl trivial ?_
            refine WL.nil ?_
            refine QT.n ?_
            exact ⟨⟨(k50, ((((((s49.1 ++ (⟨#[32, 43, 32]⟩ : ByteArray)) ++ (([(⟨#[110, 111, 110, 101]⟩ : ByteArray), (⟨#[108, 111, 99, 107]⟩ : ByteArray), (⟨#[114, 101, 97, 100]⟩ : ByteArray), (⟨#[119, 114, 105, 116, 101]⟩ : ByteArray), (⟨#[100, 111, 119, 110]⟩ : ByteArray), (⟨#[116, 97, 107, 101]⟩ : ByteArray)] : List ByteArray).getD (((a0.getD s1.2.toNat default).getD s49.2.toNat default).Kind).toNat default)) ++ (⟨#[32]⟩ : ByteArray)) ++ x75) ++ (⟨#[58]⟩ : ByteArray)) ++ x79, IntKind.i64.wrap (s49.2 + 1))), H⟩, Nat.lt_succ_self _, Less.mk' ⟨rfl, rfl, rfl, rfl, rfl, trivial⟩ trivial⟩
          replace H := of_f H h77
          refine WC.skip ?_
          refine QB.n (QT.n ?_)
          refine WC.region ?_
          refine WL.run 3 tt_ok sg0 rfl rfl trivial ?_
          refine WL.nil ?_
          refine QT.n ?_
          exact ⟨⟨(k50, ((((s49.1 ++ (⟨#[32, 43, 32]⟩ : ByteArray)) ++ (([(⟨#[110, 111, 110, 101]⟩ : ByteArray), (⟨#[108, 111, 99, 107]⟩ : ByteArray), (⟨#[114, 101, 97, 100]⟩ : ByteArray), (⟨#[119, 114, 105, 116, 101]⟩ : ByteArray), (⟨#[100, 111, 119, 110]⟩ : ByteArray), (⟨#[116, 97, 107, 101]⟩ : ByteArray)] : List ByteArray).getD (((a0.getD s1.2.toNat default).getD s49.2.toNat default).Kind).toNat default)) ++ (⟨#[32]⟩ : ByteArray)) ++ x75, IntKind.i64.wrap (s49.2 + 1))), H⟩, Nat.lt_succ_self _, Less.mk' ⟨rfl, rfl, rfl, rfl, rfl, trivial⟩ trivial⟩
        replace H := of_f H h70
        refine WC.skip ?_
        refine QT.n ?_
        refine WC.seq ?_
        refine WC.heldP (.one 0 true (.one 1 true (.one 2 true (.one 3 true (.one 4 true (.one 5 true (.one 6 true (.one 7 true (.one 8 true (.one 9 false (.one 10 true (.one 11 true .done)))))))))))) [107] [107] rfl (by kernel_rfl) rfl (by kernel_rfl) rfl rfl (fun _ h => h) rfl rfl rfl (fun _ _ _ h => h) fun FK NK wK K => ?_
        obtain ⟨g81, H⟩ := of_need H
        obtain ⟨g82, H⟩ := of_need H
        obtain ⟨g83, H⟩ := of_need H
        refine WH.run 9 tt_ok rfl rfl rfl rfl ⟨⟨(nIn_ok g81).1, (nIn_ok g81).2, rfl⟩, (nStr_ok g82), (nStr_ok g83), trivial⟩ ?_
        obtain ⟨x84, hx84, H⟩ := of_bind H
        refine WH.call [] rfl (ref09_Int_0 _ hx84) ref09_Int_f rfl rfl trivial rfl rfl rfl rfl rfl ?_
        obtain ⟨g85, H⟩ := of_need H
        refine WH.run 2 tt_ok rfl rfl rfl rfl ⟨(nStr_ok g85), trivial⟩ ?_
        refine WH.nil rfl ?_
        refine QT.n ?_
        refine WC.seq ?_
        refine WC.region ?_
        refine WL.run 2 tt_ok sg0 rfl rfl trivial ?_
        refine WL.nil ?_
        refine QT.n ?_
        refine WC.cond rfl (fun h86 => ?_) (fun h86 => ?_)
        · replace H := of_t H h86
          refine WC.region ?_
          obtain ⟨g87, H⟩ := of_need H
          refine WL.run 4 tt_ok sg0 rfl rfl ⟨(nStr_ok g87), trivial⟩ ?_
          obtain ⟨x88, hx88, H⟩ := of_bind H
          refine WL.call [] (ref09_Int_0 _ hx88) ref09_Int_f rfl rfl trivial rfl rfl rfl ?_
          obtain ⟨g89, H⟩ := of_need H
          refine WL.run 2 tt_ok sg0 rfl rfl ⟨(nStr_ok g89), trivial⟩ ?_
          refine WL.nil ?_
          refine QB.n (QT.n ?_)
          refine WC.region ?_
          refine WL.run 3 tt_ok sg0 rfl rfl trivial ?_
          refine WL.nil ?_
          refine QT.n ?_
          exact ⟨⟨(k50, (((((s49.1 ++ (([(⟨#[110, 111, 110, 101]⟩ : ByteArray), (⟨#[108, 111, 99, 107]⟩ : ByteArray), (⟨#[114, 101, 97, 100]⟩ : ByteArray), (⟨#[119, 114, 105, 116, 101]⟩ : ByteArray), (⟨#[100, 111, 119, 110]⟩ : ByteArray), (⟨#[116, 97, 107, 101]⟩ : ByteArray)] : List ByteArray).getD (((a0.getD s1.2.toNat default).getD s49.2.toNat default).Kind).toNat default)) ++ (⟨#[32]⟩ : ByteArray)) ++ x84) ++ (⟨#[58]⟩ : ByteArray)) ++ x88, IntKind.i64.wrap (s49.2 + 1))), H⟩, Nat.lt_succ_self _, Less.mk' ⟨rfl, rfl, rfl, rfl, rfl, trivial⟩ trivial⟩
        replace H := of_f H h86
        refine WC.skip ?_
        refine QB.n (QT.n ?_)
        refine WC.region ?_
        refine WL.run 3 tt_ok sg0 rfl rfl trivial ?_
        refine WL.nil ?_
        refine QT.n ?_
        exact ⟨⟨(k50, (((s49.1 ++ (([(⟨#[110, 111, 110, 101]⟩ : ByteArray), (⟨#[108, 111, 99, 107]⟩ : ByteArray), (⟨#[114, 101, 97, 100]⟩ : ByteArray), (⟨#[119, 114, 105, 116, 101]⟩ : ByteArray), (⟨#[100, 111, 119, 110]⟩ : ByteArray), (⟨#[116, 97, 107, 101]⟩ : ByteArray)] : List ByteArray).getD (((a0.getD s1.2.toNat default).getD s49.2.toNat default).Kind).toNat default)) ++ (⟨#[32]⟩ : ByteArray)) ++ x84, IntKind.i64.wrap (s49.2 + 1))), H⟩, Nat.lt_succ_self _, Less.mk' ⟨rfl, rfl, rfl, rfl, rfl, trivial⟩ trivial⟩
      replace H := of_f H h52
      refine WC.exit ?_
      refine QT.x (QT.x (QB.hit (QB.n (QT.n ?_))))
      exact ⟨s49.1, H, LessW.mk' ⟨AVle.of rfl, AVle.of rfl, AVle.of rfl, AVle.of rfl, trivial⟩ trivial⟩
    · rintro E m ⟨s5, H, hl⟩
      refine WC.lessW hl ?_
      replace H := (hK4 _).symm.trans H
      try dsimp only at H
      refine WC.region ?_
      refine WL.run 3 tt_ok sg0 rfl rfl trivial ?_
      refine WL.nil ?_
      refine QT.n ?_
      exact ⟨⟨(k2, (s5, IntKind.i64.wrap (s1.2 + 1))), H⟩, Nat.lt_succ_self _, Less.mk' ⟨rfl, rfl, rfl, rfl, trivial⟩ trivial⟩
  replace H := of_f H h3
  refine WC.exit ?_
  refine QT.x (QT.x (QB.hit (QT.n ?_)))
  refine WC.seq ?_
  refine WC.region ?_
  refine WL.run 2 tt_ok sg0 rfl rfl trivial ?_
  refine WL.nil ?_
  refine QT.n ?_
  refine WC.ret ?_
  cases H
  exact Ends.auto rfl rfl rfl trivial
theorem ref09_Text_f : hasFunc Tryd.prog 20 Tryd.f20 := ⟨Tryd.func20, rfl, by kernel_rfl⟩

/-! ### logjam/need.Objects -/
theorem need_Objects_0 (a0 : List (List T_api_Need)) (a1 : Int) {r : Int} (H : need_Objects a0 a1 = some r) : LJ.Spec Tryd.prog 21 [.d (slT enc_sl_api_Need a0), .d (.int .i64 a1)] [] (.d (.int .u64 r)) [] := by
  refine LJ.Spec.code Tryd.func21 rfl 33 rfl rfl [] rfl fun w0 F0 S0 B0 => ?_
  unfold need_Objects at H
  refine WC.seq ?_
  refine WC.region ?_
  refine WL.run 1 tt_ok sg0 rfl rfl trivial ?_
  refine WL.nil ?_
  refine QT.n ?_
  refine WC.seq ?_
  refine WC.region ?_
  refine WL.run 1 tt_ok sg0 rfl rfl trivial ?_
  refine WL.nil ?_
  refine QT.n ?_
  refine WC.seq ?_
  refine WC.seq ?_
  refine WC.region ?_
  refine WL.run 3 tt_ok sg0 rfl rfl trivial ?_
  refine WL.nil ?_
  refine QT.n ?_
  refine WC.block ?_
  refine WC.loop (ι := {x : Nat × (Int × Int) // need_Objects_l2 a0 a1 x.1 x.2 = some r}) (fun x => [(1, .d (.int .i64 a1)), (5, .d (.int .u64 x.1.2.1)), (10, .d (slT enc_sl_api_Need a0)), (11, .d (.int .i64 (a0.length : Int))), (12, .d (.int .i64 x.1.2.2))]) (fun x => []) (fun x => x.1.1) ⟨(fuel, (0, 0)), H⟩ (Less.mk' ⟨rfl, rfl, rfl, rfl, rfl, trivial⟩ trivial) fun x => ?_
  obtain ⟨⟨k2, s1⟩, H⟩ := x
  rcases k2 with _ | k2
  · exact of_none H
  rw [need_Objects_l2] at H
  refine WC.seq ?_
  refine WC.region ?_
  refine WL.run 1 tt_ok sg0 rfl rfl trivial ?_
  refine WL.nil ?_
  refine QT.n ?_
  refine WC.seq ?_
  refine WC.cond rfl (fun h3 => ?_) (fun h3 => ?_)
  · replace H := of_t H h3
    refine WC.skip ?_
    refine QT.n ?_
    obtain ⟨K4, hK4, H⟩ := of_withK H
    refine WC.cut (fun E m => ∃ s5 : Int, K4 s5 = some r ∧ LessW E m [(1, .d (.int .i64 a1)), (5, .d (.int .u64 s5)), (10, .d (slT enc_sl_api_Need a0)), (11, .d (.int .i64 (a0.length : Int))), (12, .d (.int .i64 s1.2))] []) ?_ ?_
    · refine WC.block ?_
      refine WC.seq ?_
      refine WC.region ?_
      obtain ⟨g6, H⟩ := of_need H
      refine WL.run 3 tt_ok sg0 rfl rfl ⟨⟨(nIn_ok g6).1, (nIn_ok g6).2, rfl⟩, trivial⟩ ?_
      refine WL.nil ?_
      refine QT.n ?_
      refine WC.seq ?_
      refine WC.region ?_
      refine WL.run 3 tt_ok sg0 rfl rfl trivial ?_
      refine WL.nil ?_
      refine QT.n ?_
      refine WC.block ?_
      refine WC.loop (ι := {x : Nat × (Int × Int) // need_Objects_l8 a0 a1 s1 K4 x.1 x.2 = some r}) (fun x => [(1, .d (.int .i64 a1)), (5, .d (.int .u64 x.1.2.1)), (10, .d (slT enc_sl_api_Need a0)), (11, .d (.int .i64 (a0.length : Int))), (12, .d (.int .i64 s1.2)), (16, .d (slT enc_api_Need (a0.getD s1.2.toNat default))), (17, .d (.int .i64 ((a0.getD s1.2.toNat default).length : Int))), (18, .d (.int .i64 x.1.2.2))]) (fun x => []) (fun x => x.1.1) ⟨(fuel, (s1.1, 0)), H⟩ (Less.mk' ⟨rfl, rfl, rfl, rfl, rfl, rfl, rfl, rfl, trivial⟩ trivial) fun x => ?_
      obtain ⟨⟨k8, s7⟩, H⟩ := x
      rcases k8 with _ | k8
      · exact of_none H
      rw [need_Objects_l8] at H
      refine WC.seq ?_
      refine WC.region ?_
      refine WL.run 1 tt_ok sg0 rfl rfl trivial ?_
      refine WL.nil ?_
      refine QT.n ?_
      refine WC.seq ?_
      refine WC.cond rfl (fun h9 => ?_) (fun h9 => ?_)
      · replace H := of_t H h9
        refine WC.skip ?_
        refine QT.n ?_
        refine WC.seq ?_
        refine WC.block ?_
        refine WC.seq ?_
        refine WC.region ?_
        obtain ⟨g10, H⟩ := of_need H
        refine WL.run 2 tt_ok sg0 rfl rfl ⟨⟨(nIn_ok g10).1, (nIn_ok g10).2, rfl⟩, trivial⟩ ?_
        refine WL.alloc 109 tt_ok rfl rfl rfl ?_
        refine WL.eff 0 tt_ok et_ok eg0 rfl rfl rfl trivial ?_
        refine WL.nil ?_
        refine QT.n ?_
        refine WC.seq ?_
        refine WC.region ?_
        refine WL.run 4 tt_ok sg0 rfl rfl trivial ?_
        refine WL.nil ?_
        refine QT.n ?_
        refine WC.cond rfl (fun h11 => ?_) (fun h11 => ?_)
        · replace H := of_t H h11
          refine WC.region ?_
          refine WL.run 3 tt_ok sg0 rfl rfl trivial ?_
          obtain ⟨x12, hx12, H⟩ := of_bind H
          refine WL.call [] (bits_Set_With_0 _ _ hx12) bits_Set_With_f rfl rfl trivial rfl rfl rfl ?_
          refine WL.run 1 tt_ok sg0 rfl rfl trivial ?_
          refine WL.nil ?_
          refine QB.n (QT.n ?_)
          refine WC.region ?_
          refine WL.run 2 tt_ok sg0 rfl rfl trivial ?_
          refine WL.nil ?_
          refine QT.n ?_
          exact ⟨⟨(k8, (x12, IntKind.i64.wrap (s7.2 + 1))), H⟩, Nat.lt_succ_self _, Less.mk' ⟨rfl, rfl, rfl, rfl, rfl, rfl, rfl, rfl, trivial⟩ trivial⟩
        replace H := of_f H h11
        refine WC.skip ?_
        refine QB.n (QT.n ?_)
        refine WC.region ?_
        refine WL.run 2 tt_ok sg0 rfl rfl trivial ?_
        refine WL.nil ?_
        refine QT.n ?_
        exact ⟨⟨(k8, (s7.1, IntKind.i64.wrap (s7.2 + 1))), H⟩, Nat.lt_succ_self _, Less.mk' ⟨rfl, rfl, rfl, rfl, rfl, rfl, rfl, rfl, trivial⟩ trivial⟩
      replace H := of_f H h9
      refine WC.exit ?_
      refine QT.x (QT.x (QB.hit (QB.n (QT.n ?_))))
      exact ⟨s7.1, H, LessW.mk' ⟨AVle.of rfl, AVle.of rfl, AVle.of rfl, AVle.of rfl, AVle.of rfl, trivial⟩ trivial⟩
    · rintro E m ⟨s5, H, hl⟩
      refine WC.lessW hl ?_
      replace H := (hK4 _).symm.trans H
      try dsimp only at H
      refine WC.region ?_
      refine WL.run 2 tt_ok sg0 rfl rfl trivial ?_
      refine WL.nil ?_
      refine QT.n ?_
      exact ⟨⟨(k2, (s5, IntKind.i64.wrap (s1.2 + 1))), H⟩, Nat.lt_succ_self _, Less.mk' ⟨rfl, rfl, rfl, rfl, rfl, trivial⟩ trivial⟩
  replace H := of_f H h3
  refine WC.exit ?_
  refine QT.x (QT.x (QB.hit (QT.n ?_)))
  refine WC.seq ?_
  refine WC.region ?_
  refine WL.run 2 tt_ok sg0 rfl rfl trivial ?_
  refine WL.nil ?_
  refine QT.n ?_
  refine WC.ret ?_
  cases H
  exact Ends.auto rfl rfl rfl trivial
theorem need_Objects_f : hasFunc Tryd.prog 21 Tryd.f21 := ⟨Tryd.func21, rfl, by kernel_rfl⟩

/-! ### logjam/logjamref02.Has -/
theorem ref02_Has_0 (a0 : Int) (a1 : Int) {r : Bool} (H : ref02_Has a0 a1 = some r) : LJ.Spec Tryd.prog 55 [.d (.int .u64 a0), .d (.int .i64 a1)] [] (.d (.bool r)) [] := by
  refine LJ.Spec.code Tryd.func55 rfl 22 rfl rfl [] rfl fun w0 F0 S0 B0 => ?_
  unfold ref02_Has at H
  refine WC.seq ?_
  refine WC.region ?_
  refine WL.run 1 tt_ok sg0 rfl rfl trivial ?_
  refine WL.nil ?_
  refine QT.n ?_
  refine WC.seq ?_
  refine WC.seq ?_
  refine WC.region ?_
  refine WL.run 3 tt_ok sg0 rfl rfl trivial ?_
  refine WL.sect 2 2 false tt_ok sg0 rfl rfl (fun _ => trivial) ?_
  refine WL.run 1 tt_ok sg0 rfl rfl ⟨by first | exact id | exact fun h => by rw [h]; rfl | simp_all, trivial⟩ ?_
  refine WL.nil ?_
  refine QT.n ?_
  refine WC.cond rfl (fun h1 => ?_) (fun h1 => ?_)
  · replace H := of_t H h1
    refine WC.seq ?_
    refine WC.region ?_
    refine WL.run 1 tt_ok sg0 rfl rfl trivial ?_
    refine WL.nil ?_
    refine QT.n ?_
    refine WC.ret ?_
    refine QT.r ?_
    cases H
    exact Ends.auto rfl rfl rfl trivial
  replace H := of_f H h1
  refine WC.skip ?_
  refine QT.n ?_
  refine WC.seq ?_
  refine WC.seq ?_
  refine WC.region ?_
  refine WL.run 1 tt_ok sg0 rfl rfl trivial ?_
  refine WL.nil ?_
  refine QT.n ?_
  refine WC.block ?_
  refine WC.loop (ι := {x : Nat × (Int × Int) // ref02_Has_l3 a1 x.1 x.2 = some r}) (fun x => [(0, .d (.int .u64 x.1.2.1)), (1, .d (.int .i64 a1)), (5, .d (.int .i64 x.1.2.2))]) (fun x => []) (fun x => x.1.1) ⟨(fuel, (a0, 0)), H⟩ (Less.mk' ⟨rfl, rfl, rfl, trivial⟩ trivial) fun x => ?_
  obtain ⟨⟨k3, s2⟩, H⟩ := x
  rcases k3 with _ | k3
  · exact of_none H
  rw [ref02_Has_l3] at H
  refine WC.seq ?_
  refine WC.seq ?_
  refine WC.region ?_
  refine WL.run 3 tt_ok sg0 rfl rfl trivial ?_
  refine WL.nil ?_
  refine QT.n ?_
  refine WC.cond rfl (fun h4 => ?_) (fun h4 => ?_)
  · replace H := of_t H h4
    refine WC.skip ?_
    refine QT.n ?_
    refine WC.seq ?_
    refine WC.block ?_
    refine WC.region ?_
    refine WL.run 3 tt_ok sg0 rfl rfl trivial ?_
    refine WL.nil ?_
    refine QB.n (QT.n ?_)
    refine WC.region ?_
    refine WL.run 3 tt_ok sg0 rfl rfl trivial ?_
    refine WL.nil ?_
    refine QT.n ?_
    exact ⟨⟨(k3, (IntKind.u64.wrap (Int.tdiv s2.1 2), IntKind.i64.wrap (s2.2 + 1))), H⟩, Nat.lt_succ_self _, Less.mk' ⟨rfl, rfl, rfl, trivial⟩ trivial⟩
  replace H := of_f H h4
  refine WC.exit ?_
  refine QT.x (QT.x (QB.hit (QT.n ?_)))
  refine WC.seq ?_
  refine WC.region ?_
  refine WL.run 4 tt_ok sg0 rfl rfl trivial ?_
  refine WL.nil ?_
  refine QT.n ?_
  refine WC.ret ?_
  cases H
  exact Ends.auto rfl rfl rfl trivial
theorem ref02_Has_f : hasFunc Tryd.prog 55 Tryd.f55 := ⟨Tryd.func55, rfl, by kernel_rfl⟩

/-! ### logjam/logjamref02.power -/
theorem ref02_power_0 (a0 : Int) {r : Int} (H : ref02_power a0 = some r) : LJ.Spec Tryd.prog 56 [.d (.int .i64 a0)] [] (.d (.int .u64 r)) [] := by
  refine LJ.Spec.code Tryd.func56 rfl 13 rfl rfl [] rfl fun w0 F0 S0 B0 => ?_
  unfold ref02_power at H
  refine WC.seq ?_
  refine WC.region ?_
  refine WL.run 1 tt_ok sg0 rfl rfl trivial ?_
  refine WL.nil ?_
  refine QT.n ?_
  refine WC.seq ?_
  refine WC.region ?_
  refine WL.run 1 tt_ok sg0 rfl rfl trivial ?_
  refine WL.nil ?_
  refine QT.n ?_
  refine WC.seq ?_
  refine WC.seq ?_
  refine WC.region ?_
  refine WL.run 1 tt_ok sg0 rfl rfl trivial ?_
  refine WL.nil ?_
  refine QT.n ?_
  refine WC.block ?_
  refine WC.loop (ι := {x : Nat × (Int × Int) // ref02_power_l2 a0 x.1 x.2 = some r}) (fun x => [(0, .d (.int .i64 a0)), (3, .d (.int .u64 x.1.2.1)), (4, .d (.int .i64 x.1.2.2))]) (fun x => []) (fun x => x.1.1) ⟨(fuel, (1, 0)), H⟩ (Less.mk' ⟨rfl, rfl, rfl, trivial⟩ trivial) fun x => ?_
  obtain ⟨⟨k2, s1⟩, H⟩ := x
  rcases k2 with _ | k2
  · exact of_none H
  rw [ref02_power_l2] at H
  refine WC.seq ?_
  refine WC.seq ?_
  refine WC.region ?_
  refine WL.run 3 tt_ok sg0 rfl rfl trivial ?_
  refine WL.nil ?_
  refine QT.n ?_
  refine WC.cond rfl (fun h3 => ?_) (fun h3 => ?_)
  · replace H := of_t H h3
    refine WC.skip ?_
    refine QT.n ?_
    refine WC.seq ?_
    refine WC.block ?_
    refine WC.region ?_
    refine WL.run 3 tt_ok sg0 rfl rfl trivial ?_
    refine WL.nil ?_
    refine QB.n (QT.n ?_)
    refine WC.region ?_
    refine WL.run 3 tt_ok sg0 rfl rfl trivial ?_
    refine WL.nil ?_
    refine QT.n ?_
    exact ⟨⟨(k2, (IntKind.u64.wrap (s1.1 * 2), IntKind.i64.wrap (s1.2 + 1))), H⟩, Nat.lt_succ_self _, Less.mk' ⟨rfl, rfl, rfl, trivial⟩ trivial⟩
  replace H := of_f H h3
  refine WC.exit ?_
  refine QT.x (QT.x (QB.hit (QT.n ?_)))
  refine WC.seq ?_
  refine WC.region ?_
  refine WL.run 2 tt_ok sg0 rfl rfl trivial ?_
  refine WL.nil ?_
  refine QT.n ?_
  refine WC.ret ?_
  cases H
  exact Ends.auto rfl rfl rfl trivial
theorem ref02_power_f : hasFunc Tryd.prog 56 Tryd.f56 := ⟨Tryd.func56, rfl, by kernel_rfl⟩

/-! ### logjam/logjamref02.With -/
theorem ref02_With_0 (a0 : Int) (a1 : Int) {r : Int} (H : ref02_With a0 a1 = some r) : LJ.Spec Tryd.prog 42 [.d (.int .u64 a0), .d (.int .i64 a1)] [] (.d (.int .u64 r)) [] := by
  refine LJ.Spec.code Tryd.func42 rfl 21 rfl rfl [] rfl fun w0 F0 S0 B0 => ?_
  unfold ref02_With at H
  refine WC.seq ?_
  refine WC.region ?_
  refine WL.run 1 tt_ok sg0 rfl rfl trivial ?_
  refine WL.nil ?_
  refine QT.n ?_
  refine WC.seq ?_
  refine WC.seq ?_
  refine WC.region ?_
  refine WL.run 3 tt_ok sg0 rfl rfl trivial ?_
  refine WL.sect 2 2 false tt_ok sg0 rfl rfl (fun _ => trivial) ?_
  refine WL.run 2 tt_ok sg0 rfl rfl ⟨by first | exact id | exact fun h => by rw [h]; rfl | simp_all, trivial⟩ ?_
  obtain ⟨x1, hx1, H⟩ := of_bind H
  refine WL.sect 3 6 false tt_ok [PSig.at' ref02_Has_f ((!((iLt a1 0) || (iLt 63 a1))) = true) rfl (fun hb => ref02_Has_0 _ _ (of_t hx1 hb))] rfl rfl (fun hb => ⟨⟨hb, rfl⟩, trivial⟩) ?_
  refine WL.run 1 tt_ok sg0 rfl rfl ⟨by first | exact id | exact fun h => by rw [h]; rfl | simp_all, trivial⟩ ?_
  refine WL.nil ?_
  refine QT.n ?_
  refine WC.cond rfl (fun h2 => ?_) (fun h2 => ?_)
  · replace H := of_t H h2
    refine WC.seq ?_
    refine WC.region ?_
    refine WL.run 2 tt_ok sg0 rfl rfl trivial ?_
    refine WL.nil ?_
    refine QT.n ?_
    refine WC.ret ?_
    refine QT.r ?_
    cases H
    exact Ends.auto rfl rfl rfl trivial
  replace H := of_f H h2
  refine WC.skip ?_
  refine QT.n ?_
  refine WC.seq ?_
  refine WC.region ?_
  refine WL.run 2 tt_ok sg0 rfl rfl trivial ?_
  obtain ⟨x3, hx3, H⟩ := of_bind H
  refine WL.call [] (ref02_power_0 _ hx3) ref02_power_f rfl rfl trivial rfl rfl rfl ?_
  refine WL.run 2 tt_ok sg0 rfl rfl trivial ?_
  refine WL.nil ?_
  refine QT.n ?_
  refine WC.ret ?_
  cases H
  exact Ends.auto rfl rfl rfl trivial
theorem ref02_With_f : hasFunc Tryd.prog 42 Tryd.f42 := ⟨Tryd.func42, rfl, by kernel_rfl⟩

/-! ### logjam/logjamref09.Objects -/
theorem ref09_Objects_0 (a0 : List (List T_api_Need)) (a1 : Int) {r : Int} (H : ref09_Objects a0 a1 = some r) : LJ.Spec Tryd.prog 22 [.d (slT enc_sl_api_Need a0), .d (.int .i64 a1)] [] (.d (.int .u64 r)) [] := by
  refine LJ.Spec.code Tryd.func22 rfl 44 rfl rfl [] rfl fun w0 F0 S0 B0 => ?_
  unfold ref09_Objects at H
  refine WC.seq ?_
  refine WC.region ?_
  refine WL.run 1 tt_ok sg0 rfl rfl trivial ?_
  refine WL.nil ?_
  refine QT.n ?_
  refine WC.seq ?_
  refine WC.region ?_
  refine WL.run 1 tt_ok sg0 rfl rfl trivial ?_
  refine WL.nil ?_
  refine QT.n ?_
  refine WC.seq ?_
  refine WC.seq ?_
  refine WC.region ?_
  refine WL.run 1 tt_ok sg0 rfl rfl trivial ?_
  refine WL.nil ?_
  refine QT.n ?_
  refine WC.block ?_
  refine WC.loop (ι := {x : Nat × (Int × Int) // ref09_Objects_l2 a0 a1 x.1 x.2 = some r}) (fun x => [(0, .d (slT enc_sl_api_Need a0)), (1, .d (.int .i64 a1)), (5, .d (.int .u64 x.1.2.1)), (6, .d (.int .i64 x.1.2.2))]) (fun x => []) (fun x => x.1.1) ⟨(fuel, (0, 0)), H⟩ (Less.mk' ⟨rfl, rfl, rfl, rfl, trivial⟩ trivial) fun x => ?_
  obtain ⟨⟨k2, s1⟩, H⟩ := x
  rcases k2 with _ | k2
  · exact of_none H
  rw [ref09_Objects_l2] at H
  refine WC.seq ?_
  refine WC.seq ?_
  refine WC.region ?_
  refine WL.run 4 tt_ok sg0 rfl rfl trivial ?_
  refine WL.nil ?_
  refine QT.n ?_
  refine WC.cond rfl (fun h3 => ?_) (fun h3 => ?_)
  · replace H := of_t H h3
    refine WC.skip ?_
    refine QT.n ?_
    obtain ⟨K4, hK4, H⟩ := of_withK H
    refine WC.cut (fun E m => ∃ s5 : Int, K4 s5 = some r ∧ LessW E m [(0, .d (slT enc_sl_api_Need a0)), (1, .d (.int .i64 a1)), (5, .d (.int .u64 s5)), (6, .d (.int .i64 s1.2))] []) ?_ ?_
    · refine WC.block ?_
      refine WC.seq ?_
      refine WC.region ?_
      refine WL.run 1 tt_ok sg0 rfl rfl trivial ?_
      refine WL.nil ?_
      refine QT.n ?_
      refine WC.block ?_
      refine WC.loop (ι := {x : Nat × (Int × Int) // ref09_Objects_l7 a0 a1 s1 K4 x.1 x.2 = some r}) (fun x => [(0, .d (slT enc_sl_api_Need a0)), (1, .d (.int .i64 a1)), (5, .d (.int .u64 x.1.2.1)), (6, .d (.int .i64 s1.2)), (7, .d (.int .i64 x.1.2.2))]) (fun x => []) (fun x => x.1.1) ⟨(fuel, (s1.1, 0)), H⟩ (Less.mk' ⟨rfl, rfl, rfl, rfl, rfl, trivial⟩ trivial) fun x => ?_
      obtain ⟨⟨k7, s6⟩, H⟩ := x
      rcases k7 with _ | k7
      · exact of_none H
      rw [ref09_Objects_l7] at H
      refine WC.seq ?_
      refine WC.seq ?_
      refine WC.region ?_
      obtain ⟨g8, H⟩ := of_need H
      refine WL.run 7 tt_ok sg0 rfl rfl ⟨⟨(nIn_ok g8).1, (nIn_ok g8).2, rfl⟩, trivial⟩ ?_
      refine WL.nil ?_
      refine QT.n ?_
      refine WC.cond rfl (fun h9 => ?_) (fun h9 => ?_)
      · replace H := of_t H h9
        refine WC.skip ?_
        refine QT.n ?_
        refine WC.seq ?_
        refine WC.block ?_
        refine WC.seq ?_
        refine WC.region ?_
        obtain ⟨g10, H⟩ := of_need H
        obtain ⟨g11, H⟩ := of_need H
        refine WL.run 10 tt_ok sg0 rfl rfl ⟨⟨(nIn_ok g10).1, (nIn_ok g10).2, rfl⟩, ⟨(nIn_ok g11).1, (nIn_ok g11).2, rfl⟩, trivial⟩ ?_
        refine WL.nil ?_
        refine QT.n ?_
        refine WC.cond rfl (fun h12 => ?_) (fun h12 => ?_)
        · replace H := of_t H h12
          refine WC.region ?_
          obtain ⟨g13, H⟩ := of_need H
          obtain ⟨g14, H⟩ := of_need H
          refine WL.run 9 tt_ok sg0 rfl rfl ⟨⟨(nIn_ok g13).1, (nIn_ok g13).2, rfl⟩, ⟨(nIn_ok g14).1, (nIn_ok g14).2, rfl⟩, trivial⟩ ?_
          obtain ⟨x15, hx15, H⟩ := of_bind H
          refine WL.call [] (ref02_With_0 _ _ hx15) ref02_With_f rfl rfl trivial rfl rfl rfl ?_
          refine WL.run 1 tt_ok sg0 rfl rfl trivial ?_
          refine WL.nil ?_
          refine QB.n (QT.n ?_)
          refine WC.region ?_
          refine WL.run 3 tt_ok sg0 rfl rfl trivial ?_
          refine WL.nil ?_
          refine QT.n ?_
          exact ⟨⟨(k7, (x15, IntKind.i64.wrap (s6.2 + 1))), H⟩, Nat.lt_succ_self _, Less.mk' ⟨rfl, rfl, rfl, rfl, rfl, trivial⟩ trivial⟩
        replace H := of_f H h12
        refine WC.skip ?_
        refine QB.n (QT.n ?_)
        refine WC.region ?_
        refine WL.run 3 tt_ok sg0 rfl rfl trivial ?_
        refine WL.nil ?_
        refine QT.n ?_
        exact ⟨⟨(k7, (s6.1, IntKind.i64.wrap (s6.2 + 1))), H⟩, Nat.lt_succ_self _, Less.mk' ⟨rfl, rfl, rfl, rfl, rfl, trivial⟩ trivial⟩
      replace H := of_f H h9
      refine WC.exit ?_
      refine QT.x (QT.x (QB.hit (QB.n (QT.n ?_))))
      exact ⟨s6.1, H, LessW.mk' ⟨AVle.of rfl, AVle.of rfl, AVle.of rfl, AVle.of rfl, trivial⟩ trivial⟩
    · rintro E m ⟨s5, H, hl⟩
      refine WC.lessW hl ?_
      replace H := (hK4 _).symm.trans H
      try dsimp only at H
      refine WC.region ?_
      refine WL.run 3 tt_ok sg0 rfl rfl trivial ?_
      refine WL.nil ?_
      refine QT.n ?_
      exact ⟨⟨(k2, (s5, IntKind.i64.wrap (s1.2 + 1))), H⟩, Nat.lt_succ_self _, Less.mk' ⟨rfl, rfl, rfl, rfl, trivial⟩ trivial⟩
  replace H := of_f H h3
  refine WC.exit ?_
  refine QT.x (QT.x (QB.hit (QT.n ?_)))
  refine WC.seq ?_
  refine WC.region ?_
  refine WL.run 2 tt_ok sg0 rfl rfl trivial ?_
  refine WL.nil ?_
  refine QT.n ?_
  refine WC.ret ?_
  cases H
  exact Ends.auto rfl rfl rfl trivial
theorem ref09_Objects_f : hasFunc Tryd.prog 22 Tryd.f22 := ⟨Tryd.func22, rfl, by kernel_rfl⟩

/-! ### logjam/logjamlaw09.NeedTexts -/
theorem law09_NeedTexts_0 (a0 : List (List T_api_Need)) (a1 : Int) {r : Bool} (H : law09_NeedTexts a0 a1 = some r) : LJ.Spec Tryd.prog 7 [.d (slT enc_sl_api_Need a0), .d (.int .i64 a1)] [] (.d (.bool r)) [] := by
  refine LJ.Spec.code Tryd.func7 rfl 26 rfl rfl [] rfl fun w0 F0 S0 B0 => ?_
  unfold law09_NeedTexts at H
  refine WC.seq ?_
  refine WC.region ?_
  refine WL.run 1 tt_ok sg0 rfl rfl trivial ?_
  refine WL.nil ?_
  refine QT.n ?_
  refine WC.seq ?_
  refine WC.region ?_
  refine WL.run 1 tt_ok sg0 rfl rfl trivial ?_
  obtain ⟨x1, hx1, H⟩ := of_bind H
  refine WL.call [] (law09_Own_0 _ hx1) law09_Own_f rfl rfl trivial rfl rfl rfl ?_
  refine WL.run 1 tt_ok sg0 rfl rfl trivial ?_
  refine WL.nil ?_
  refine QT.n ?_
  refine WC.seq ?_
  refine WC.region ?_
  refine WL.run 1 tt_ok sg0 rfl rfl trivial ?_
  obtain ⟨x2, hx2, H⟩ := of_bind H
  refine WL.call [] (law09_Own_0 _ hx2) law09_Own_f rfl rfl trivial rfl rfl rfl ?_
  obtain ⟨x3, hx3, H⟩ := of_bind H
  refine WL.call [] (need_Text_0 _ hx3) need_Text_f rfl rfl trivial rfl rfl rfl ?_
  refine WL.run 1 tt_ok sg0 rfl rfl trivial ?_
  obtain ⟨x4, hx4, H⟩ := of_bind H
  refine WL.call [] (ref09_Text_0 _ hx4) ref09_Text_f rfl rfl trivial rfl rfl rfl ?_
  refine WL.run 2 tt_ok sg0 rfl rfl trivial ?_
  obtain ⟨x5, hx5, H⟩ := of_bind H
  obtain ⟨x6, hx6, H⟩ := of_bind H
  obtain ⟨x7, hx7, H⟩ := of_bind H
  refine WL.sect 8 6 true tt_ok [PSig.at' law09_Own_f ((sEq x3 x4) = true) rfl (fun hb => law09_Own_0 _ (of_t hx5 hb)), PSig.at' need_Objects_f ((sEq x3 x4) = true) rfl (fun hb => need_Objects_0 _ _ (of_t hx6 hb)), PSig.at' ref09_Objects_f ((sEq x3 x4) = true) rfl (fun hb => ref09_Objects_0 _ _ (of_t hx7 hb))] rfl rfl (fun hb => ⟨⟨hb, rfl⟩, ⟨hb, rfl⟩, ⟨hb, rfl⟩, trivial⟩) ?_
  refine WL.run 2 tt_ok sg0 rfl rfl ⟨by first | exact id | exact fun h => by rw [h]; rfl | simp_all, trivial⟩ ?_
  obtain ⟨x8, hx8, H⟩ := of_bind H
  refine WL.sect 1 16 true tt_ok [PSig.at' law09_lives_f (((sEq x3 x4) && (iEq x6 x7)) = true) rfl (fun hb => law09_lives_0  (of_t hx8 hb))] rfl rfl (fun hb => ⟨⟨hb, rfl⟩, trivial⟩) ?_
  refine WL.run 2 tt_ok sg0 rfl rfl ⟨by first | exact id | exact fun h => by rw [h]; rfl | simp_all, trivial⟩ ?_
  refine WL.nil ?_
  refine QT.n ?_
  refine WC.ret ?_
  cases H
  exact Ends.auto rfl rfl rfl trivial
theorem law09_NeedTexts_f : hasFunc Tryd.prog 7 Tryd.f7 := ⟨Tryd.func7, rfl, by kernel_rfl⟩

end Go.Proofs.YtdgnolnlcflmmaaDoor.W
