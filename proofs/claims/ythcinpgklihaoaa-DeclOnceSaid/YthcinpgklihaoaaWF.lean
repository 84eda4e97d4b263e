/- Each Go function comes to what its plain function gives, where that gives something. -/
import Derived.Test.YthcinpgklihaoaaPF
import Derived.Test.YthcinpgklihaoaaProg
namespace Go.Proofs.Ythcinpgklihaoaa.W
open Go Go.RowKit LJ
set_option linter.unusedVariables false
set_option linter.unusedSimpArgs false
set_option maxRecDepth 10000
/-- The types that the walks meet. -/
def tt : List (Nat × TK) := [(2, .int .i64), (3, .int .i64), (4, .bool), (5, .int .u8), (9, .str), (21, .int .i32), (22, .slice 45 3), (23, .int .i64), (45, .struct 3 [(0, 1, true), (1, 1, true), (2, 1, true)] [.int .i64 0, .int .i64 0, .int .i64 0]), (48, .ptr), (49, .slice 5 1), (51, .struct 1 [(0, 1, true)] [.nils]), (53, .int .u64), (57, .ptr), (65, .struct 3 [(0, 1, true), (1, 1, true), (2, 1, true)] [.str .empty, .int .i64 0, .int .i64 0]), (68, .slice 3 1), (74, .struct 3 [(0, 1, true), (1, 1, true), (2, 1, true)] [.str .empty, .int .i64 0, .int .i64 0]), (79, .slice 68 1)]
theorem tt_ok : ttOK Try.prog tt = true := by kernel_rfl
/-- Elements of the slices that are appended to: cells, bytes. -/
def et : List (Nat × Nat × Nat) := [(3, 1, 8), (5, 1, 1), (45, 3, 24), (68, 1, 24)]
theorem et_ok : etOK Try.prog et = true := by kernel_rfl
theorem eb_ok : byteB Try.prog 5 = true := by kernel_rfl
def sg0 : List (PSig Try.prog) := []
def eg0 : List (ESig Try.prog) := []
/-! ### logjam/decl.units -/
theorem decl_units_0 (a0 : Int) (a1 : Int) {r : Bool} (H : decl_units a0 a1 = some r) : LJ.Spec Try.prog 35 [.d (.int .i64 a0), .d (.int .i64 a1)] [] (.d (.bool r)) [] := by
  refine LJ.Spec.code Try.func35 rfl 12 rfl rfl [] rfl fun w0 F0 S0 B0 => ?_
  unfold decl_units at H
  refine WC.seq ?_
  refine WC.region ?_
  refine WL.run 1 tt_ok sg0 rfl rfl trivial ?_
  refine WL.nil ?_
  refine QT.n ?_
  refine WC.seq ?_
  refine WC.region ?_
  refine WL.run 4 tt_ok sg0 rfl rfl trivial ?_
  refine WL.sect 2 3 true tt_ok sg0 rfl rfl (fun _ => trivial) ?_
  refine WL.run 2 tt_ok sg0 rfl rfl ⟨by first | exact id | exact fun h => by rw [h]; rfl | simp_all, trivial⟩ ?_
  refine WL.nil ?_
  refine QT.n ?_
  refine WC.ret ?_
  cases H
  exact Ends.auto rfl rfl rfl trivial
theorem decl_units_f : hasFunc Try.prog 35 Try.f35 := ⟨Try.func35, rfl, by kernel_rfl⟩

/-! ### logjam/word.Fits -/
theorem word_Fits_0 (a0 : Int) {r : Bool} (H : word_Fits a0 = some r) : LJ.Spec Try.prog 36 [.d (.int .i64 a0)] [] (.d (.bool r)) [] := by
  refine LJ.Spec.code Try.func36 rfl 8 rfl rfl [] rfl fun w0 F0 S0 B0 => ?_
  unfold word_Fits at H
  refine WC.seq ?_
  refine WC.region ?_
  refine WL.run 1 tt_ok sg0 rfl rfl trivial ?_
  refine WL.nil ?_
  refine QT.n ?_
  refine WC.seq ?_
  refine WC.region ?_
  refine WL.run 6 tt_ok sg0 rfl rfl trivial ?_
  refine WL.nil ?_
  refine QT.n ?_
  refine WC.ret ?_
  cases H
  exact Ends.auto rfl rfl rfl trivial
theorem word_Fits_f : hasFunc Try.prog 36 Try.f36 := ⟨Try.func36, rfl, by kernel_rfl⟩

/-! ### logjam/decl.Fits -/
theorem decl_Fits_0 (a0 : List T_api_Decl) (a1 : Int) (a2 : Int) {r : Bool} (H : decl_Fits a0 a1 a2 = some r) : LJ.Spec Try.prog 17 [.d (slT enc_api_Decl a0), .d (.int .u8 a1), .d (.int .i64 a2)] [] (.d (.bool r)) [] := by
  refine LJ.Spec.code Try.func17 rfl 62 rfl rfl [] rfl fun w0 F0 S0 B0 => ?_
  unfold decl_Fits at H
  refine WC.seq ?_
  refine WC.region ?_
  refine WL.run 1 tt_ok sg0 rfl rfl trivial ?_
  refine WL.nil ?_
  refine QT.n ?_
  refine WC.seq ?_
  refine WC.seq ?_
  refine WC.region ?_
  refine WL.run 3 tt_ok sg0 rfl rfl trivial ?_
  refine WL.sect 4 2 false tt_ok sg0 rfl rfl (fun _ => trivial) ?_
  refine WL.run 1 tt_ok sg0 rfl rfl ⟨by first | exact id | exact fun h => by rw [h]; rfl | simp_all, trivial⟩ ?_
  refine WL.nil ?_
  refine QT.n ?_
  refine WC.cond rfl (fun h1 => ?_) (fun h1 => ?_)
  · replace H := of_t H h1
    refine WC.seq ?_
    refine WC.region ?_
    refine WL.run 1 tt_ok sg0 rfl rfl trivial ?_
    refine WL.nil ?_
    refine QT.n ?_
    refine WC.ret ?_
    refine QT.r ?_
    cases H
    exact Ends.auto rfl rfl rfl trivial
  replace H := of_f H h1
  refine WC.skip ?_
  refine QT.n ?_
  refine WC.seq ?_
  refine WC.region ?_
  obtain ⟨g2, H⟩ := of_need H
  refine WL.run 6 tt_ok sg0 rfl rfl ⟨⟨(nIn_ok g2).1, (nIn_ok g2).2, rfl⟩, trivial⟩ ?_
  refine WL.nil ?_
  refine QT.n ?_
  refine WC.seq ?_
  refine WC.seq ?_
  refine WC.region ?_
  refine WL.run 1 tt_ok sg0 rfl rfl trivial ?_
  refine WL.nil ?_
  refine QT.n ?_
  refine WC.block ?_
  refine WC.seq ?_
  refine WC.region ?_
  refine WL.run 2 tt_ok sg0 rfl rfl trivial ?_
  refine WL.nil ?_
  refine QT.n ?_
  refine WC.cond rfl (fun h3 => ?_) (fun h3 => ?_)
  · replace H := of_t H h3
    refine WC.seq ?_
    refine WC.region ?_
    refine WL.run 3 tt_ok sg0 rfl rfl trivial ?_
    refine WL.sect 2 2 false tt_ok sg0 rfl rfl (fun _ => trivial) ?_
    refine WL.run 2 tt_ok sg0 rfl rfl ⟨by first | exact id | exact fun h => by rw [h]; rfl | simp_all, trivial⟩ ?_
    refine WL.nil ?_
    refine QT.n ?_
    refine WC.ret ?_
    refine QB.r (QT.r ?_)
    cases H
    exact Ends.auto rfl rfl rfl trivial
  replace H := of_f H h3
  refine WC.seq ?_
  refine WC.region ?_
  refine WL.run 2 tt_ok sg0 rfl rfl trivial ?_
  refine WL.nil ?_
  refine QT.n ?_
  refine WC.cond rfl (fun h4 => ?_) (fun h4 => ?_)
  · replace H := of_t H h4
    refine WC.seq ?_
    refine WC.region ?_
    refine WL.run 3 tt_ok sg0 rfl rfl trivial ?_
    refine WL.nil ?_
    refine QT.n ?_
    refine WC.ret ?_
    refine QB.r (QT.r ?_)
    cases H
    exact Ends.auto rfl rfl rfl trivial
  replace H := of_f H h4
  refine WC.seq ?_
  refine WC.region ?_
  refine WL.run 2 tt_ok sg0 rfl rfl trivial ?_
  refine WL.nil ?_
  refine QT.n ?_
  refine WC.cond rfl (fun h5 => ?_) (fun h5 => ?_)
  · replace H := of_t H h5
    refine WC.seq ?_
    refine WC.region ?_
    refine WL.run 3 tt_ok sg0 rfl rfl trivial ?_
    refine WL.nil ?_
    refine QT.n ?_
    refine WC.ret ?_
    refine QB.r (QT.r ?_)
    cases H
    exact Ends.auto rfl rfl rfl trivial
  replace H := of_f H h5
  refine WC.seq ?_
  refine WC.region ?_
  refine WL.run 2 tt_ok sg0 rfl rfl trivial ?_
  refine WL.nil ?_
  refine QT.n ?_
  refine WC.cond rfl (fun h6 => ?_) (fun h6 => ?_)
  · replace H := of_t H h6
    refine WC.seq ?_
    refine WC.region ?_
    refine WL.run 3 tt_ok sg0 rfl rfl trivial ?_
    refine WL.nil ?_
    refine QT.n ?_
    refine WC.ret ?_
    refine QB.r (QT.r ?_)
    cases H
    exact Ends.auto rfl rfl rfl trivial
  replace H := of_f H h6
  refine WC.seq ?_
  refine WC.region ?_
  refine WL.run 2 tt_ok sg0 rfl rfl trivial ?_
  refine WL.nil ?_
  refine QT.n ?_
  refine WC.cond rfl (fun h7 => ?_) (fun h7 => ?_)
  · replace H := of_t H h7
    refine WC.seq ?_
    refine WC.region ?_
    refine WL.run 3 tt_ok sg0 rfl rfl trivial ?_
    refine WL.nil ?_
    refine QT.n ?_
    refine WC.ret ?_
    refine QB.r (QT.r ?_)
    cases H
    exact Ends.auto rfl rfl rfl trivial
  replace H := of_f H h7
  refine WC.seq ?_
  refine WC.region ?_
  refine WL.run 2 tt_ok sg0 rfl rfl trivial ?_
  refine WL.nil ?_
  refine QT.n ?_
  refine WC.cond rfl (fun h8 => ?_) (fun h8 => ?_)
  · replace H := of_t H h8
    refine WC.seq ?_
    refine WC.region ?_
    refine WL.run 3 tt_ok sg0 rfl rfl trivial ?_
    refine WL.nil ?_
    refine QT.n ?_
    refine WC.ret ?_
    refine QB.r (QT.r ?_)
    cases H
    exact Ends.auto rfl rfl rfl trivial
  replace H := of_f H h8
  refine WC.seq ?_
  refine WC.region ?_
  refine WL.run 2 tt_ok sg0 rfl rfl trivial ?_
  refine WL.nil ?_
  refine QT.n ?_
  refine WC.cond rfl (fun h9 => ?_) (fun h9 => ?_)
  · replace H := of_t H h9
    refine WC.seq ?_
    refine WC.region ?_
    refine WL.run 3 tt_ok sg0 rfl rfl trivial ?_
    refine WL.nil ?_
    refine QT.n ?_
    refine WC.ret ?_
    refine QB.r (QT.r ?_)
    cases H
    exact Ends.auto rfl rfl rfl trivial
  replace H := of_f H h9
  refine WC.seq ?_
  refine WC.region ?_
  refine WL.run 2 tt_ok sg0 rfl rfl trivial ?_
  refine WL.nil ?_
  refine QT.n ?_
  refine WC.cond rfl (fun h10 => ?_) (fun h10 => ?_)
  · replace H := of_t H h10
    refine WC.seq ?_
    refine WC.region ?_
    refine WL.run 3 tt_ok sg0 rfl rfl trivial ?_
    refine WL.sect 2 2 false tt_ok sg0 rfl rfl (fun _ => trivial) ?_
    refine WL.run 2 tt_ok sg0 rfl rfl ⟨by first | exact id | exact fun h => by rw [h]; rfl | simp_all, trivial⟩ ?_
    refine WL.nil ?_
    refine QT.n ?_
    refine WC.ret ?_
    refine QB.r (QT.r ?_)
    cases H
    exact Ends.auto rfl rfl rfl trivial
  replace H := of_f H h10
  refine WC.skip ?_
  refine QB.n (QT.n ?_)
  refine WC.seq ?_
  refine WC.region ?_
  refine WL.run 1 tt_ok sg0 rfl rfl trivial ?_
  refine WL.nil ?_
  refine QT.n ?_
  refine WC.ret ?_
  cases H
  exact Ends.auto rfl rfl rfl trivial
theorem decl_Fits_f : hasFunc Try.prog 17 Try.f17 := ⟨Try.func17, rfl, by kernel_rfl⟩

/-! ### logjam/decl.one -/
theorem decl_one_0 (a0 : List T_api_Decl) (a1 : T_api_Decl) {r : Int} (H : decl_one a0 a1 = some r) : LJ.Spec Try.prog 20 [.d (slT enc_api_Decl a0), .d (.agg [.int .i64 a1.Kind, .int .i64 a1.A, .int .i64 a1.B])] [] (.d (.int .i64 r)) [] := by
  refine LJ.Spec.code Try.func20 rfl 62 rfl rfl [] rfl fun w0 F0 S0 B0 => ?_
  unfold decl_one at H
  refine WC.seq ?_
  refine WC.region ?_
  refine WL.eff 103 tt_ok et_ok eg0 rfl rfl rfl trivial ?_
  refine WL.run 1 tt_ok sg0 rfl rfl trivial ?_
  refine WL.nil ?_
  refine QT.n ?_
  refine WC.seq ?_
  refine WC.heldP (.one 0 true (.one 1 true (.one 2 true (.one 3 true (.one 4 true (.one 5 true (.one 6 true (.one 7 true (.one 8 true (.one 9 true .done)))))))))) [103] [103] rfl (by kernel_rfl) rfl (by kernel_rfl) rfl rfl (fun _ h => h) rfl rfl rfl (fun _ _ _ h => h) fun FK NK wK K => ?_
  refine WH.run 4 tt_ok rfl rfl rfl rfl trivial ?_
  refine WH.sect 3 3 true tt_ok rfl rfl rfl rfl (fun _ => trivial) ?_
  refine WH.run 3 tt_ok rfl rfl rfl rfl ⟨by first | exact id | exact fun h => by rw [h]; rfl | simp_all, trivial⟩ ?_
  refine WH.nil rfl ?_
  refine QT.n ?_
  refine WC.seq ?_
  refine WC.seq ?_
  refine WC.region ?_
  refine WL.run 2 tt_ok sg0 rfl rfl trivial ?_
  refine WL.nil ?_
  refine QT.n ?_
  refine WC.block ?_
  refine WC.seq ?_
  refine WC.region ?_
  refine WL.run 2 tt_ok sg0 rfl rfl trivial ?_
  refine WL.nil ?_
  refine QT.n ?_
  refine WC.cond rfl (fun h1 => ?_) (fun h1 => ?_)
  · replace H := of_t H h1
    refine WC.region ?_
    refine WL.run 2 tt_ok sg0 rfl rfl trivial ?_
    obtain ⟨x2, hx2, H⟩ := of_bind H
    refine WL.call [] (decl_units_0 _ _ hx2) decl_units_f rfl rfl trivial rfl rfl rfl ?_
    refine WL.run 1 tt_ok sg0 rfl rfl trivial ?_
    refine WL.sect 3 3 true tt_ok sg0 rfl rfl (fun _ => trivial) ?_
    refine WL.run 2 tt_ok sg0 rfl rfl ⟨by first | exact id | exact fun h => by rw [h]; rfl | simp_all, trivial⟩ ?_
    refine WL.sect 5 8 true tt_ok sg0 rfl rfl (fun _ => trivial) ?_
    refine WL.run 3 tt_ok sg0 rfl rfl ⟨by first | exact id | exact fun h => by rw [h]; rfl | simp_all, trivial⟩ ?_
    refine WL.nil ?_
    refine QB.n (QT.n ?_)
    refine WC.seq ?_
    refine WC.seq ?_
    refine WC.region ?_
    refine WL.run 2 tt_ok sg0 rfl rfl trivial ?_
    refine WL.nil ?_
    refine QT.n ?_
    refine WC.cond rfl (fun h3 => ?_) (fun h3 => ?_)
    · replace H := of_t H h3
      refine WC.seq ?_
      refine WC.region ?_
      refine WL.run 1 tt_ok sg0 rfl rfl trivial ?_
      refine WL.nil ?_
      refine QT.n ?_
      refine WC.ret ?_
      refine QT.r ?_
      cases H
      exact Ends.auto rfl rfl rfl trivial
    replace H := of_f H h3
    refine WC.skip ?_
    refine QT.n ?_
    refine WC.seq ?_
    refine WC.seq ?_
    refine WC.region ?_
    refine WL.run 2 tt_ok sg0 rfl rfl trivial ?_
    refine WL.nil ?_
    refine QT.n ?_
    refine WC.cond rfl (fun h => absurd h (by decide)) (fun h => ?_)
    refine WC.skip ?_
    refine QT.n ?_
    refine WC.seq ?_
    refine WC.region ?_
    refine WL.run 1 tt_ok sg0 rfl rfl trivial ?_
    refine WL.nil ?_
    refine QT.n ?_
    refine WC.ret ?_
    cases H
    exact Ends.auto rfl rfl rfl trivial
  replace H := of_f H h1
  refine WC.seq ?_
  refine WC.region ?_
  refine WL.run 2 tt_ok sg0 rfl rfl trivial ?_
  refine WL.nil ?_
  refine QT.n ?_
  refine WC.cond rfl (fun h4 => ?_) (fun h4 => ?_)
  · replace H := of_t H h4
    refine WC.heldP (.one 0 true (.one 1 true (.one 3 true (.one 4 true (.one 5 true (.one 2 false (.one 6 true (.one 7 true .done)))))))) [103] [103] rfl (by kernel_rfl) rfl (by kernel_rfl) rfl rfl (fun _ h => h) rfl rfl rfl (fun _ _ _ h => h) fun FK NK wK K => ?_
    refine WH.run 5 tt_ok rfl rfl rfl rfl trivial ?_
    obtain ⟨x5, hx5, H⟩ := of_bind H
    refine WH.call [] rfl (decl_units_0 _ _ hx5) decl_units_f rfl rfl trivial rfl rfl rfl rfl rfl ?_
    refine WH.run 2 tt_ok rfl rfl rfl rfl trivial ?_
    refine WH.nil rfl ?_
    refine QB.n (QT.n ?_)
    refine WC.seq ?_
    refine WC.seq ?_
    refine WC.region ?_
    refine WL.run 2 tt_ok sg0 rfl rfl trivial ?_
    refine WL.nil ?_
    refine QT.n ?_
    refine WC.cond rfl (fun h6 => ?_) (fun h6 => ?_)
    · replace H := of_t H h6
      refine WC.seq ?_
      refine WC.region ?_
      refine WL.run 1 tt_ok sg0 rfl rfl trivial ?_
      refine WL.nil ?_
      refine QT.n ?_
      refine WC.ret ?_
      refine QT.r ?_
      cases H
      exact Ends.auto rfl rfl rfl trivial
    replace H := of_f H h6
    refine WC.skip ?_
    refine QT.n ?_
    refine WC.seq ?_
    refine WC.seq ?_
    refine WC.region ?_
    refine WL.run 2 tt_ok sg0 rfl rfl trivial ?_
    refine WL.nil ?_
    refine QT.n ?_
    refine WC.cond rfl (fun h7 => ?_) (fun h7 => ?_)
    · replace H := of_t H h7
      refine WC.seq ?_
      refine WC.region ?_
      refine WL.run 1 tt_ok sg0 rfl rfl trivial ?_
      refine WL.nil ?_
      refine QT.n ?_
      refine WC.ret ?_
      refine QT.r ?_
      cases H
      exact Ends.auto rfl rfl rfl trivial
    replace H := of_f H h7
    refine WC.skip ?_
    refine QT.n ?_
    refine WC.seq ?_
    refine WC.region ?_
    refine WL.run 1 tt_ok sg0 rfl rfl trivial ?_
    refine WL.nil ?_
    refine QT.n ?_
    refine WC.ret ?_
    cases H
    exact Ends.auto rfl rfl rfl trivial
  replace H := of_f H h4
  refine WC.seq ?_
  refine WC.region ?_
  refine WL.run 2 tt_ok sg0 rfl rfl trivial ?_
  refine WL.nil ?_
  refine QT.n ?_
  refine WC.cond rfl (fun h8 => ?_) (fun h8 => ?_)
  · replace H := of_t H h8
    refine WC.region ?_
    refine WL.run 2 tt_ok sg0 rfl rfl trivial ?_
    obtain ⟨x9, hx9, H⟩ := of_bind H
    refine WL.call [] (word_Fits_0 _ hx9) word_Fits_f rfl rfl trivial rfl rfl rfl ?_
    refine WL.run 1 tt_ok sg0 rfl rfl trivial ?_
    obtain ⟨x10, hx10, H⟩ := of_bind H
    refine WL.sect 4 3 true tt_ok [PSig.at' decl_Fits_f (x9 = true) rfl (fun hb => decl_Fits_0 _ _ _ (of_t hx10 hb))] rfl rfl (fun hb => ⟨⟨hb, rfl⟩, trivial⟩) ?_
    refine WL.run 3 tt_ok sg0 rfl rfl ⟨by first | exact id | exact fun h => by rw [h]; rfl | simp_all, trivial⟩ ?_
    refine WL.nil ?_
    refine QB.n (QT.n ?_)
    refine WC.seq ?_
    refine WC.seq ?_
    refine WC.region ?_
    refine WL.run 2 tt_ok sg0 rfl rfl trivial ?_
    refine WL.nil ?_
    refine QT.n ?_
    refine WC.cond rfl (fun h11 => ?_) (fun h11 => ?_)
    · replace H := of_t H h11
      refine WC.seq ?_
      refine WC.region ?_
      refine WL.run 1 tt_ok sg0 rfl rfl trivial ?_
      refine WL.nil ?_
      refine QT.n ?_
      refine WC.ret ?_
      refine QT.r ?_
      cases H
      exact Ends.auto rfl rfl rfl trivial
    replace H := of_f H h11
    refine WC.skip ?_
    refine QT.n ?_
    refine WC.seq ?_
    refine WC.seq ?_
    refine WC.region ?_
    refine WL.run 2 tt_ok sg0 rfl rfl trivial ?_
    refine WL.nil ?_
    refine QT.n ?_
    refine WC.cond rfl (fun h => absurd h (by decide)) (fun h => ?_)
    refine WC.skip ?_
    refine QT.n ?_
    refine WC.seq ?_
    refine WC.region ?_
    refine WL.run 1 tt_ok sg0 rfl rfl trivial ?_
    refine WL.nil ?_
    refine QT.n ?_
    refine WC.ret ?_
    cases H
    exact Ends.auto rfl rfl rfl trivial
  replace H := of_f H h8
  refine WC.seq ?_
  refine WC.seq ?_
  refine WC.region ?_
  refine WL.run 2 tt_ok sg0 rfl rfl trivial ?_
  refine WL.nil ?_
  refine QT.n ?_
  refine WC.cond rfl (fun h12 => ?_) (fun h12 => ?_)
  · replace H := of_t H h12
    refine WC.known (g := 53) true rfl h12 ?_
    refine WC.skip ?_
    refine QT.n ?_
    refine WC.cond rfl (fun h => ?_) (fun h => absurd h (by decide))
    refine WC.skip ?_
    refine QB.n (QT.n ?_)
    refine WC.seq ?_
    refine WC.seq ?_
    refine WC.region ?_
    refine WL.run 2 tt_ok sg0 rfl rfl trivial ?_
    refine WL.nil ?_
    refine QT.n ?_
    refine WC.cond rfl (fun h => absurd h (by decide)) (fun h => ?_)
    refine WC.skip ?_
    refine QT.n ?_
    refine WC.seq ?_
    refine WC.seq ?_
    refine WC.region ?_
    refine WL.run 2 tt_ok sg0 rfl rfl trivial ?_
    refine WL.nil ?_
    refine QT.n ?_
    refine WC.cond rfl (fun h13 => ?_) (fun h13 => ?_)
    · replace H := of_t H h13
      refine WC.seq ?_
      refine WC.region ?_
      refine WL.run 1 tt_ok sg0 rfl rfl trivial ?_
      refine WL.nil ?_
      refine QT.n ?_
      refine WC.ret ?_
      refine QT.r ?_
      cases H
      exact Ends.auto rfl rfl rfl trivial
    replace H := of_f H h13
    refine WC.skip ?_
    refine QT.n ?_
    refine WC.seq ?_
    refine WC.region ?_
    refine WL.run 1 tt_ok sg0 rfl rfl trivial ?_
    refine WL.nil ?_
    refine QT.n ?_
    refine WC.ret ?_
    cases H
    exact Ends.auto rfl rfl rfl trivial
  replace H := of_f H h12
  refine WC.seq ?_
  refine WC.region ?_
  refine WL.run 2 tt_ok sg0 rfl rfl trivial ?_
  refine WL.nil ?_
  refine QT.n ?_
  refine WC.cond rfl (fun h14 => ?_) (fun h14 => ?_)
  · replace H := of_t H h14
    refine WC.known (g := 53) true rfl h14 ?_
    refine WC.skip ?_
    refine QT.n ?_
    refine WC.cond rfl (fun h => ?_) (fun h => absurd h (by decide))
    refine WC.skip ?_
    refine QB.n (QT.n ?_)
    refine WC.seq ?_
    refine WC.seq ?_
    refine WC.region ?_
    refine WL.run 2 tt_ok sg0 rfl rfl trivial ?_
    refine WL.nil ?_
    refine QT.n ?_
    refine WC.cond rfl (fun h => absurd h (by decide)) (fun h => ?_)
    refine WC.skip ?_
    refine QT.n ?_
    refine WC.seq ?_
    refine WC.seq ?_
    refine WC.region ?_
    refine WL.run 2 tt_ok sg0 rfl rfl trivial ?_
    refine WL.nil ?_
    refine QT.n ?_
    refine WC.cond rfl (fun h15 => ?_) (fun h15 => ?_)
    · replace H := of_t H h15
      refine WC.seq ?_
      refine WC.region ?_
      refine WL.run 1 tt_ok sg0 rfl rfl trivial ?_
      refine WL.nil ?_
      refine QT.n ?_
      refine WC.ret ?_
      refine QT.r ?_
      cases H
      exact Ends.auto rfl rfl rfl trivial
    replace H := of_f H h15
    refine WC.skip ?_
    refine QT.n ?_
    refine WC.seq ?_
    refine WC.region ?_
    refine WL.run 1 tt_ok sg0 rfl rfl trivial ?_
    refine WL.nil ?_
    refine QT.n ?_
    refine WC.ret ?_
    cases H
    exact Ends.auto rfl rfl rfl trivial
  replace H := of_f H h14
  refine WC.seq ?_
  refine WC.region ?_
  refine WL.run 2 tt_ok sg0 rfl rfl trivial ?_
  refine WL.nil ?_
  refine QT.n ?_
  refine WC.cond rfl (fun h16 => ?_) (fun h16 => ?_)
  · replace H := of_t H h16
    refine WC.known (g := 53) true rfl h16 ?_
    refine WC.skip ?_
    refine QT.n ?_
    refine WC.cond rfl (fun h => ?_) (fun h => absurd h (by decide))
    refine WC.skip ?_
    refine QB.n (QT.n ?_)
    refine WC.seq ?_
    refine WC.seq ?_
    refine WC.region ?_
    refine WL.run 2 tt_ok sg0 rfl rfl trivial ?_
    refine WL.nil ?_
    refine QT.n ?_
    refine WC.cond rfl (fun h => absurd h (by decide)) (fun h => ?_)
    refine WC.skip ?_
    refine QT.n ?_
    refine WC.seq ?_
    refine WC.seq ?_
    refine WC.region ?_
    refine WL.run 2 tt_ok sg0 rfl rfl trivial ?_
    refine WL.nil ?_
    refine QT.n ?_
    refine WC.cond rfl (fun h17 => ?_) (fun h17 => ?_)
    · replace H := of_t H h17
      refine WC.seq ?_
      refine WC.region ?_
      refine WL.run 1 tt_ok sg0 rfl rfl trivial ?_
      refine WL.nil ?_
      refine QT.n ?_
      refine WC.ret ?_
      refine QT.r ?_
      cases H
      exact Ends.auto rfl rfl rfl trivial
    replace H := of_f H h17
    refine WC.skip ?_
    refine QT.n ?_
    refine WC.seq ?_
    refine WC.region ?_
    refine WL.run 1 tt_ok sg0 rfl rfl trivial ?_
    refine WL.nil ?_
    refine QT.n ?_
    refine WC.ret ?_
    cases H
    exact Ends.auto rfl rfl rfl trivial
  replace H := of_f H h16
  refine WC.region ?_
  refine WL.run 2 tt_ok sg0 rfl rfl trivial ?_
  refine WL.nil ?_
  refine QT.n ?_
  refine WC.cond rfl (fun h18 => ?_) (fun h18 => ?_)
  · replace H := of_t H h18
    refine WC.skip ?_
    refine QB.n (QT.n ?_)
    refine WC.seq ?_
    refine WC.seq ?_
    refine WC.region ?_
    refine WL.run 2 tt_ok sg0 rfl rfl trivial ?_
    refine WL.nil ?_
    refine QT.n ?_
    refine WC.cond rfl (fun h => absurd h (by decide)) (fun h => ?_)
    refine WC.skip ?_
    refine QT.n ?_
    refine WC.seq ?_
    refine WC.seq ?_
    refine WC.region ?_
    refine WL.run 2 tt_ok sg0 rfl rfl trivial ?_
    refine WL.nil ?_
    refine QT.n ?_
    refine WC.cond rfl (fun h19 => ?_) (fun h19 => ?_)
    · replace H := of_t H h19
      refine WC.seq ?_
      refine WC.region ?_
      refine WL.run 1 tt_ok sg0 rfl rfl trivial ?_
      refine WL.nil ?_
      refine QT.n ?_
      refine WC.ret ?_
      refine QT.r ?_
      cases H
      exact Ends.auto rfl rfl rfl trivial
    replace H := of_f H h19
    refine WC.skip ?_
    refine QT.n ?_
    refine WC.seq ?_
    refine WC.region ?_
    refine WL.run 1 tt_ok sg0 rfl rfl trivial ?_
    refine WL.nil ?_
    refine QT.n ?_
    refine WC.ret ?_
    cases H
    exact Ends.auto rfl rfl rfl trivial
  replace H := of_f H h18
  refine WC.seq ?_
  refine WC.region ?_
  refine WL.run 1 tt_ok sg0 rfl rfl trivial ?_
  refine WL.nil ?_
  refine QT.n ?_
  refine WC.ret ?_
  refine QB.r (QT.r ?_)
  cases H
  exact Ends.auto rfl rfl rfl trivial
theorem decl_one_f : hasFunc Try.prog 20 Try.f20 := ⟨Try.func20, rfl, by kernel_rfl⟩

/-! ### logjam/decl.Check -/
theorem decl_Check_0 (a0 : List T_api_Decl) {r : Int × Int} (H : decl_Check a0 = some r) : LJ.Spec Try.prog 8 [.d (slT enc_api_Decl a0)] [] (.tup [.d (.int .i64 r.1), .d (.int .i64 r.2)]) [] := by
  refine LJ.Spec.code Try.func8 rfl 25 rfl rfl [] rfl fun w0 F0 S0 B0 => ?_
  unfold decl_Check at H
  refine WC.seq ?_
  refine WC.region ?_
  refine WL.run 2 tt_ok sg0 rfl rfl trivial ?_
  refine WL.nil ?_
  refine QT.n ?_
  refine WC.seq ?_
  refine WC.seq ?_
  refine WC.region ?_
  refine WL.run 3 tt_ok sg0 rfl rfl trivial ?_
  refine WL.nil ?_
  refine QT.n ?_
  refine WC.cond rfl (fun h1 => ?_) (fun h1 => ?_)
  · replace H := of_t H h1
    refine WC.seq ?_
    refine WC.region ?_
    refine WL.run 2 tt_ok sg0 rfl rfl trivial ?_
    refine WL.nil ?_
    refine QT.n ?_
    refine WC.ret ?_
    refine QT.r ?_
    cases H
    exact Ends.auto rfl rfl rfl trivial
  replace H := of_f H h1
  refine WC.skip ?_
  refine QT.n ?_
  refine WC.seq ?_
  refine WC.seq ?_
  refine WC.region ?_
  refine WL.run 3 tt_ok sg0 rfl rfl trivial ?_
  refine WL.nil ?_
  refine QT.n ?_
  refine WC.block ?_
  refine WC.loop (ι := {x : Nat × Int // decl_Check_l3 a0 x.1 x.2 = some r}) (fun x => [(0, .d (slT enc_api_Decl a0)), (10, .d (slT enc_api_Decl a0)), (11, .d (.int .i64 (a0.length : Int))), (12, .d (.int .i64 x.1.2))]) (fun x => []) (fun x => x.1.1) ⟨(fuel, 0), H⟩ (Less.mk' ⟨rfl, rfl, rfl, rfl, trivial⟩ trivial) fun x => ?_
  obtain ⟨⟨k3, s2⟩, H⟩ := x
  rcases k3 with _ | k3
  · exact of_none H
  rw [decl_Check_l3] at H
  refine WC.seq ?_
  refine WC.region ?_
  refine WL.run 1 tt_ok sg0 rfl rfl trivial ?_
  refine WL.nil ?_
  refine QT.n ?_
  refine WC.seq ?_
  refine WC.cond rfl (fun h4 => ?_) (fun h4 => ?_)
  · replace H := of_t H h4
    refine WC.skip ?_
    refine QT.n ?_
    refine WC.seq ?_
    refine WC.block ?_
    refine WC.seq ?_
    refine WC.region ?_
    obtain ⟨g5, H⟩ := of_need H
    refine WL.run 3 tt_ok sg0 rfl rfl ⟨⟨(nIn_ok g5).1, (nIn_ok g5).2, rfl⟩, trivial⟩ ?_
    refine WL.alloc 105 tt_ok rfl rfl rfl ?_
    refine WL.run 1 tt_ok sg0 rfl rfl trivial ?_
    refine WL.eff 0 tt_ok et_ok eg0 rfl rfl rfl trivial ?_
    refine WL.nil ?_
    refine QT.n ?_
    refine WC.seq ?_
    refine WC.region ?_
    refine WL.run 2 tt_ok sg0 rfl rfl trivial ?_
    obtain ⟨x6, hx6, H⟩ := of_bind H
    refine WL.call [] (decl_one_0 _ _ hx6) decl_one_f rfl rfl trivial rfl rfl rfl ?_
    refine WL.run 1 tt_ok sg0 rfl rfl trivial ?_
    refine WL.nil ?_
    refine QT.n ?_
    refine WC.seq ?_
    refine WC.region ?_
    refine WL.run 2 tt_ok sg0 rfl rfl trivial ?_
    refine WL.nil ?_
    refine QT.n ?_
    refine WC.cond rfl (fun h7 => ?_) (fun h7 => ?_)
    · replace H := of_t H h7
      refine WC.seq ?_
      refine WC.region ?_
      refine WL.run 4 tt_ok sg0 rfl rfl trivial ?_
      refine WL.nil ?_
      refine QT.n ?_
      refine WC.ret ?_
      refine QB.r (QT.r (QT.r (QB.r (QT.r ?_))))
      cases H
      exact Ends.auto rfl rfl rfl trivial
    replace H := of_f H h7
    refine WC.skip ?_
    refine QB.n (QT.n ?_)
    refine WC.region ?_
    refine WL.run 2 tt_ok sg0 rfl rfl trivial ?_
    refine WL.nil ?_
    refine QT.n ?_
    exact ⟨⟨(k3, IntKind.i64.wrap (s2 + 1)), H⟩, Nat.lt_succ_self _, Less.mk' ⟨rfl, rfl, rfl, rfl, trivial⟩ trivial⟩
  replace H := of_f H h4
  refine WC.exit ?_
  refine QT.x (QT.x (QB.hit (QT.n ?_)))
  refine WC.seq ?_
  refine WC.region ?_
  refine WL.run 2 tt_ok sg0 rfl rfl trivial ?_
  refine WL.nil ?_
  refine QT.n ?_
  refine WC.ret ?_
  cases H
  exact Ends.auto rfl rfl rfl trivial
theorem decl_Check_f : hasFunc Try.prog 8 Try.f8 := ⟨Try.func8, rfl, by kernel_rfl⟩

/-! ### logjam/logjamref03.Fits -/
theorem ref03_Fits_0 (a0 : Int) {r : Bool} (H : ref03_Fits a0 = some r) : LJ.Spec Try.prog 37 [.d (.int .i64 a0)] [] (.d (.bool r)) [] := by
  refine LJ.Spec.code Try.func37 rfl 9 rfl rfl [] rfl fun w0 F0 S0 B0 => ?_
  unfold ref03_Fits at H
  refine WC.seq ?_
  refine WC.region ?_
  refine WL.run 1 tt_ok sg0 rfl rfl trivial ?_
  refine WL.nil ?_
  refine QT.n ?_
  refine WC.seq ?_
  refine WC.region ?_
  refine WL.run 3 tt_ok sg0 rfl rfl trivial ?_
  refine WL.sect 2 2 true tt_ok sg0 rfl rfl (fun _ => trivial) ?_
  refine WL.run 2 tt_ok sg0 rfl rfl ⟨by first | exact id | exact fun h => by rw [h]; rfl | simp_all, trivial⟩ ?_
  refine WL.nil ?_
  refine QT.n ?_
  refine WC.ret ?_
  cases H
  exact Ends.auto rfl rfl rfl trivial
theorem ref03_Fits_f : hasFunc Try.prog 37 Try.f37 := ⟨Try.func37, rfl, by kernel_rfl⟩

/-! ### logjam/logjamref08.kinds -/
theorem ref08_kinds_0 (a0 : Int) {r : List Int} (H : ref08_kinds a0 = some r) : LJ.Spec Try.prog 34 [.d (.int .u8 a0)] [] (.d (slT enc_i64 r)) [] := by
  refine LJ.Spec.code Try.func34 rfl 30 rfl rfl [] rfl fun w0 F0 S0 B0 => ?_
  unfold ref08_kinds at H
  refine WC.seq ?_
  refine WC.region ?_
  refine WL.run 1 tt_ok sg0 rfl rfl trivial ?_
  refine WL.nil ?_
  refine QT.n ?_
  refine WC.seq ?_
  refine WC.region ?_
  refine WL.run 1 tt_ok sg0 rfl rfl trivial ?_
  refine WL.nil ?_
  refine QT.n ?_
  refine WC.seq ?_
  refine WC.region ?_
  refine WL.eff 106 tt_ok et_ok eg0 rfl rfl rfl trivial ?_
  refine WL.freezeT 106 enc_i64 ([1, 2] : List Int) rfl rfl rfl rfl ?_
  refine WL.eff 107 tt_ok et_ok eg0 rfl rfl rfl trivial ?_
  refine WL.freezeT 107 enc_i64 ([3] : List Int) rfl rfl rfl rfl ?_
  refine WL.eff 108 tt_ok et_ok eg0 rfl rfl rfl trivial ?_
  refine WL.freezeT 108 enc_i64 ([6] : List Int) rfl rfl rfl rfl ?_
  refine WL.eff 109 tt_ok et_ok eg0 rfl rfl rfl trivial ?_
  refine WL.freezeT 109 enc_i64 ([4] : List Int) rfl rfl rfl rfl ?_
  refine WL.eff 110 tt_ok et_ok eg0 rfl rfl rfl trivial ?_
  refine WL.freezeT 110 enc_i64 ([1] : List Int) rfl rfl rfl rfl ?_
  refine WL.eff 111 tt_ok et_ok eg0 rfl rfl rfl trivial ?_
  refine WL.freezeT 111 enc_i64 ([5] : List Int) rfl rfl rfl rfl ?_
  refine WL.eff 112 tt_ok et_ok eg0 rfl rfl rfl trivial ?_
  refine WL.freezeT 112 enc_i64 ([7] : List Int) rfl rfl rfl rfl ?_
  refine WL.eff 113 tt_ok et_ok eg0 rfl rfl rfl trivial ?_
  refine WL.freezeT 113 enc_i64 ([1, 6] : List Int) rfl rfl rfl rfl ?_
  refine WL.eff 114 tt_ok et_ok eg0 rfl rfl rfl trivial ?_
  refine WL.freezeT 114 enc_sl_i64 ([([1, 2] : List Int), ([3] : List Int), ([6] : List Int), ([4] : List Int), ([1] : List Int), ([5] : List Int), ([7] : List Int), ([1, 6] : List Int)] : List (List Int)) rfl rfl rfl rfl ?_
  refine WL.run 1 tt_ok sg0 rfl rfl trivial ?_
  refine WL.nil ?_
  refine QT.n ?_
  refine WC.seq ?_
  refine WC.seq ?_
  refine WC.region ?_
  refine WL.run 1 tt_ok sg0 rfl rfl trivial ?_
  refine WL.nil ?_
  refine QT.n ?_
  refine WC.block ?_
  refine WC.loop (ι := {x : Nat × Int // ref08_kinds_l2 a0 x.1 x.2 = some r}) (fun x => [(0, .d (.int .u8 a0)), (3, .d (.str (⟨#[117, 115, 112, 99, 109, 98, 118, 113]⟩ : ByteArray))), (4, .d (slT enc_sl_i64 ([([1, 2] : List Int), ([3] : List Int), ([6] : List Int), ([4] : List Int), ([1] : List Int), ([5] : List Int), ([7] : List Int), ([1, 6] : List Int)] : List (List Int)))), (5, .d (.int .i64 x.1.2))]) (fun x => []) (fun x => x.1.1) ⟨(fuel, 0), H⟩ (Less.mk' ⟨rfl, rfl, rfl, rfl, trivial⟩ trivial) fun x => ?_
  obtain ⟨⟨k2, s1⟩, H⟩ := x
  rcases k2 with _ | k2
  · exact of_none H
  rw [ref08_kinds_l2] at H
  refine WC.seq ?_
  refine WC.seq ?_
  refine WC.region ?_
  refine WL.run 4 tt_ok sg0 rfl rfl trivial ?_
  refine WL.nil ?_
  refine QT.n ?_
  refine WC.cond rfl (fun h3 => ?_) (fun h3 => ?_)
  · replace H := of_t H h3
    refine WC.skip ?_
    refine QT.n ?_
    refine WC.seq ?_
    refine WC.block ?_
    refine WC.seq ?_
    refine WC.region ?_
    obtain ⟨g4, H⟩ := of_need H
    refine WL.run 5 tt_ok sg0 rfl rfl ⟨(nIn_ok g4), trivial⟩ ?_
    refine WL.nil ?_
    refine QT.n ?_
    refine WC.cond rfl (fun h5 => ?_) (fun h5 => ?_)
    · replace H := of_t H h5
      refine WC.seq ?_
      refine WC.region ?_
      obtain ⟨g6, H⟩ := of_need H
      refine WL.run 5 tt_ok sg0 rfl rfl ⟨⟨(nIn_ok g6).1, (nIn_ok g6).2, rfl⟩, trivial⟩ ?_
      refine WL.nil ?_
      refine QT.n ?_
      refine WC.ret ?_
      refine QB.r (QT.r (QT.r (QB.r (QT.r ?_))))
      cases H
      exact Ends.auto rfl rfl rfl trivial
    replace H := of_f H h5
    refine WC.skip ?_
    refine QB.n (QT.n ?_)
    refine WC.region ?_
    refine WL.run 3 tt_ok sg0 rfl rfl trivial ?_
    refine WL.nil ?_
    refine QT.n ?_
    exact ⟨⟨(k2, IntKind.i64.wrap (s1 + 1)), H⟩, Nat.lt_succ_self _, Less.mk' ⟨rfl, rfl, rfl, rfl, trivial⟩ trivial⟩
  replace H := of_f H h3
  refine WC.exit ?_
  refine QT.x (QT.x (QB.hit (QT.n ?_)))
  refine WC.seq ?_
  refine WC.region ?_
  refine WL.run 1 tt_ok sg0 rfl rfl trivial ?_
  refine WL.nil ?_
  refine QT.n ?_
  refine WC.nilT 2 enc_i64 rfl ?_
  refine WC.ret ?_
  cases H
  exact Ends.auto rfl rfl rfl trivial
theorem ref08_kinds_f : hasFunc Try.prog 34 Try.f34 := ⟨Try.func34, rfl, by kernel_rfl⟩

/-! ### logjam/logjamref08.Fits -/
theorem ref08_Fits_0 (a0 : List T_api_Decl) (a1 : Int) (a2 : Int) {r : Bool} (H : ref08_Fits a0 a1 a2 = some r) : LJ.Spec Try.prog 18 [.d (slT enc_api_Decl a0), .d (.int .u8 a1), .d (.int .i64 a2)] [] (.d (.bool r)) [] := by
  refine LJ.Spec.code Try.func18 rfl 37 rfl rfl [] rfl fun w0 F0 S0 B0 => ?_
  unfold ref08_Fits at H
  refine WC.seq ?_
  refine WC.region ?_
  refine WL.run 1 tt_ok sg0 rfl rfl trivial ?_
  refine WL.nil ?_
  refine QT.n ?_
  refine WC.seq ?_
  refine WC.region ?_
  refine WL.run 1 tt_ok sg0 rfl rfl trivial ?_
  obtain ⟨x1, hx1, H⟩ := of_bind H
  refine WL.call [] (ref08_kinds_0 _ hx1) ref08_kinds_f rfl rfl trivial rfl rfl rfl ?_
  refine WL.run 1 tt_ok sg0 rfl rfl trivial ?_
  refine WL.nil ?_
  refine QT.n ?_
  refine WC.seq ?_
  refine WC.seq ?_
  refine WC.region ?_
  refine WL.run 1 tt_ok sg0 rfl rfl trivial ?_
  refine WL.nil ?_
  refine QT.n ?_
  refine WC.block ?_
  refine WC.loop (ι := {x : Nat × Int // ref08_Fits_l3 a0 a2 x1 x.1 x.2 = some r}) (fun x => [(0, .d (slT enc_api_Decl a0)), (2, .d (.int .i64 a2)), (7, .d (slT enc_i64 x1)), (8, .d (.int .i64 x.1.2))]) (fun x => []) (fun x => x.1.1) ⟨(fuel, 0), H⟩ (Less.mk' ⟨rfl, rfl, rfl, rfl, trivial⟩ trivial) fun x => ?_
  obtain ⟨⟨k3, s2⟩, H⟩ := x
  rcases k3 with _ | k3
  · exact of_none H
  rw [ref08_Fits_l3] at H
  refine WC.seq ?_
  refine WC.seq ?_
  refine WC.region ?_
  refine WL.run 5 tt_ok sg0 rfl rfl trivial ?_
  refine WL.sect 2 4 true tt_ok sg0 rfl rfl (fun _ => trivial) ?_
  refine WL.run 2 tt_ok sg0 rfl rfl ⟨by first | exact id | exact fun h => by rw [h]; rfl | simp_all, trivial⟩ ?_
  refine WL.sect 4 8 true tt_ok sg0 rfl rfl (fun _ => trivial) ?_
  refine WL.run 1 tt_ok sg0 rfl rfl ⟨by first | exact id | exact fun h => by rw [h]; rfl | simp_all, trivial⟩ ?_
  refine WL.nil ?_
  refine QT.n ?_
  refine WC.cond rfl (fun h4 => ?_) (fun h4 => ?_)
  · replace H := of_t H h4
    refine WC.skip ?_
    refine QT.n ?_
    refine WC.seq ?_
    refine WC.block ?_
    refine WC.seq ?_
    refine WC.heldP (.one 0 true (.one 1 true (.one 2 true (.one 3 true (.one 4 true (.one 5 true (.one 6 true (.one 7 true (.one 8 true (.one 9 true .done)))))))))) [] [] rfl (by kernel_rfl) rfl (by kernel_rfl) rfl rfl (fun _ h => h) rfl rfl rfl (fun _ _ _ h => h) fun FK NK wK K => ?_
    obtain ⟨g5, H⟩ := of_need H
    obtain ⟨g6, H⟩ := of_need H
    refine WH.run 10 tt_ok rfl rfl rfl rfl ⟨⟨(nIn_ok g5).1, (nIn_ok g5).2, rfl⟩, ⟨(nIn_ok g6).1, (nIn_ok g6).2, rfl⟩, trivial⟩ ?_
    refine WH.nil rfl ?_
    refine QT.n ?_
    refine WC.cond rfl (fun h7 => ?_) (fun h7 => ?_)
    · replace H := of_t H h7
      refine WC.seq ?_
      refine WC.region ?_
      refine WL.run 1 tt_ok sg0 rfl rfl trivial ?_
      refine WL.nil ?_
      refine QT.n ?_
      refine WC.ret ?_
      refine QB.r (QT.r (QT.r (QB.r (QT.r ?_))))
      cases H
      exact Ends.auto rfl rfl rfl trivial
    replace H := of_f H h7
    refine WC.skip ?_
    refine QB.n (QT.n ?_)
    refine WC.region ?_
    refine WL.run 3 tt_ok sg0 rfl rfl trivial ?_
    refine WL.nil ?_
    refine QT.n ?_
    exact ⟨⟨(k3, IntKind.i64.wrap (s2 + 1)), H⟩, Nat.lt_succ_self _, Less.mk' ⟨rfl, rfl, rfl, rfl, trivial⟩ trivial⟩
  replace H := of_f H h4
  refine WC.exit ?_
  refine QT.x (QT.x (QB.hit (QT.n ?_)))
  refine WC.seq ?_
  refine WC.region ?_
  refine WL.run 1 tt_ok sg0 rfl rfl trivial ?_
  refine WL.nil ?_
  refine QT.n ?_
  refine WC.ret ?_
  cases H
  exact Ends.auto rfl rfl rfl trivial
theorem ref08_Fits_f : hasFunc Try.prog 18 Try.f18 := ⟨Try.func18, rfl, by kernel_rfl⟩

/-! ### logjam/logjamref08.one -/
theorem ref08_one_0 (a0 : List T_api_Decl) (a1 : T_api_Decl) {r : Int} (H : ref08_one a0 a1 = some r) : LJ.Spec Try.prog 21 [.d (slT enc_api_Decl a0), .d (.agg [.int .i64 a1.Kind, .int .i64 a1.A, .int .i64 a1.B])] [] (.d (.int .i64 r)) [] := by
  refine LJ.Spec.code Try.func21 rfl 100 rfl rfl [] rfl fun w0 F0 S0 B0 => ?_
  unfold ref08_one at H
  refine WC.seq ?_
  refine WC.region ?_
  refine WL.eff 103 tt_ok et_ok eg0 rfl rfl rfl trivial ?_
  refine WL.run 1 tt_ok sg0 rfl rfl trivial ?_
  refine WL.nil ?_
  refine QT.n ?_
  refine WC.seq ?_
  refine WC.seq ?_
  refine WC.region ?_
  refine WL.run 4 tt_ok sg0 rfl rfl trivial ?_
  refine WL.sect 3 3 false tt_ok sg0 rfl rfl (fun _ => trivial) ?_
  refine WL.run 1 tt_ok sg0 rfl rfl ⟨by first | exact id | exact fun h => by rw [h]; rfl | simp_all, trivial⟩ ?_
  refine WL.nil ?_
  refine QT.n ?_
  refine WC.cond rfl (fun h1 => ?_) (fun h1 => ?_)
  · replace H := of_t H h1
    refine WC.seq ?_
    refine WC.region ?_
    refine WL.run 1 tt_ok sg0 rfl rfl trivial ?_
    refine WL.nil ?_
    refine QT.n ?_
    refine WC.ret ?_
    refine QT.r ?_
    cases H
    exact Ends.auto rfl rfl rfl trivial
  replace H := of_f H h1
  refine WC.skip ?_
  refine QT.n ?_
  refine WC.seq ?_
  refine WC.seq ?_
  refine WC.region ?_
  refine WL.run 4 tt_ok sg0 rfl rfl trivial ?_
  refine WL.sect 4 3 true tt_ok sg0 rfl rfl (fun _ => trivial) ?_
  refine WL.sect 3 7 false tt_ok sg0 rfl rfl (fun _ => trivial) ?_
  refine WL.sect 2 3 true tt_ok sg0 rfl rfl (fun hb => ⟨by first | exact id | exact ⟨hb, fun h => by rw [hb, h]; rfl⟩ | exact ⟨hb, id⟩ | exact fun h => by rw [hb, h]; rfl | exact fun h => by rw [h]; rfl | simp_all, trivial⟩) ?_
  refine WL.sect 3 12 false tt_ok sg0 rfl rfl (fun _ => trivial) ?_
  refine WL.sect 2 3 true tt_ok sg0 rfl rfl (fun hb => ⟨by first | exact id | exact ⟨hb, fun h => by rw [hb, h]; rfl⟩ | exact ⟨hb, id⟩ | exact fun h => by rw [hb, h]; rfl | exact fun h => by rw [h]; rfl | simp_all, trivial⟩) ?_
  refine WL.sect 5 17 false tt_ok sg0 rfl rfl (fun _ => trivial) ?_
  refine WL.sect 1 3 true tt_ok sg0 rfl rfl (fun hb => ⟨by first | exact id | exact ⟨hb, fun h => by rw [hb, h]; rfl⟩ | exact ⟨hb, id⟩ | exact fun h => by rw [hb, h]; rfl | exact fun h => by rw [h]; rfl | simp_all, trivial⟩) ?_
  refine WL.run 1 tt_ok sg0 rfl rfl ⟨by first | exact id | exact fun h => by rw [h]; rfl | simp_all, trivial⟩ ?_
  refine WL.nil ?_
  refine QT.n ?_
  refine WC.cond rfl (fun h2 => ?_) (fun h2 => ?_)
  · replace H := of_t H h2
    refine WC.seq ?_
    refine WC.region ?_
    refine WL.run 1 tt_ok sg0 rfl rfl trivial ?_
    refine WL.nil ?_
    refine QT.n ?_
    refine WC.ret ?_
    refine QT.r ?_
    cases H
    exact Ends.auto rfl rfl rfl trivial
  replace H := of_f H h2
  refine WC.skip ?_
  refine QT.n ?_
  refine WC.seq ?_
  refine WC.seq ?_
  refine WC.region ?_
  refine WL.run 4 tt_ok sg0 rfl rfl trivial ?_
  refine WL.sect 4 3 true tt_ok sg0 rfl rfl (fun _ => trivial) ?_
  refine WL.sect 3 7 false tt_ok sg0 rfl rfl (fun _ => trivial) ?_
  refine WL.sect 1 3 true tt_ok sg0 rfl rfl (fun hb => ⟨by first | exact id | exact ⟨hb, fun h => by rw [hb, h]; rfl⟩ | exact ⟨hb, id⟩ | exact fun h => by rw [hb, h]; rfl | exact fun h => by rw [h]; rfl | simp_all, trivial⟩) ?_
  refine WL.run 1 tt_ok sg0 rfl rfl ⟨by first | exact id | exact fun h => by rw [h]; rfl | simp_all, trivial⟩ ?_
  refine WL.nil ?_
  refine QT.n ?_
  refine WC.cond rfl (fun h3 => ?_) (fun h3 => ?_)
  · replace H := of_t H h3
    refine WC.seq ?_
    refine WC.region ?_
    refine WL.run 1 tt_ok sg0 rfl rfl trivial ?_
    refine WL.nil ?_
    refine QT.n ?_
    refine WC.ret ?_
    refine QT.r ?_
    cases H
    exact Ends.auto rfl rfl rfl trivial
  replace H := of_f H h3
  refine WC.skip ?_
  refine QT.n ?_
  refine WC.seq ?_
  refine WC.seq ?_
  refine WC.region ?_
  refine WL.run 4 tt_ok sg0 rfl rfl trivial ?_
  obtain ⟨x4, hx4, H⟩ := of_bind H
  refine WL.sect 5 3 true tt_ok [PSig.at' ref03_Fits_f ((iEq a1.Kind 7) = true) rfl (fun hb => ref03_Fits_0 _ (of_t hx4 hb))] rfl rfl (fun hb => ⟨⟨hb, rfl⟩, trivial⟩) ?_
  obtain ⟨x5, hx5, H⟩ := of_bind H
  refine WL.sect 5 8 false tt_ok [PSig.at' ref08_Fits_f (((iEq a1.Kind 7) && !(!x4)) = true) rfl (fun hb => ref08_Fits_0 _ _ _ (of_t hx5 hb))] rfl rfl (fun hb => ⟨⟨hb, rfl⟩, trivial⟩) ?_
  refine WL.sect 1 3 true tt_ok sg0 rfl rfl (fun hb => ⟨by first | exact id | exact ⟨hb, fun h => by rw [hb, h]; rfl⟩ | exact ⟨hb, id⟩ | exact fun h => by rw [hb, h]; rfl | exact fun h => by rw [h]; rfl | simp_all, trivial⟩) ?_
  refine WL.run 1 tt_ok sg0 rfl rfl ⟨by first | exact id | exact fun h => by rw [h]; rfl | simp_all, trivial⟩ ?_
  refine WL.nil ?_
  refine QT.n ?_
  refine WC.cond rfl (fun h6 => ?_) (fun h6 => ?_)
  · replace H := of_t H h6
    refine WC.seq ?_
    refine WC.region ?_
    refine WL.run 1 tt_ok sg0 rfl rfl trivial ?_
    refine WL.nil ?_
    refine QT.n ?_
    refine WC.ret ?_
    refine QT.r ?_
    cases H
    exact Ends.auto rfl rfl rfl trivial
  replace H := of_f H h6
  refine WC.skip ?_
  refine QT.n ?_
  refine WC.seq ?_
  refine WC.seq ?_
  refine WC.region ?_
  refine WL.run 4 tt_ok sg0 rfl rfl trivial ?_
  refine WL.sect 3 3 true tt_ok sg0 rfl rfl (fun _ => trivial) ?_
  refine WL.run 2 tt_ok sg0 rfl rfl ⟨by first | exact id | exact fun h => by rw [h]; rfl | simp_all, trivial⟩ ?_
  refine WL.sect 3 8 true tt_ok sg0 rfl rfl (fun _ => trivial) ?_
  refine WL.run 2 tt_ok sg0 rfl rfl ⟨by first | exact id | exact fun h => by rw [h]; rfl | simp_all, trivial⟩ ?_
  refine WL.sect 4 13 false tt_ok sg0 rfl rfl (fun _ => trivial) ?_
  refine WL.sect 3 17 true tt_ok sg0 rfl rfl (fun _ => trivial) ?_
  refine WL.sect 2 13 false tt_ok sg0 rfl rfl (fun hb => ⟨by first | exact id | exact ⟨hb, fun h => by rw [hb, h]; rfl⟩ | exact ⟨hb, id⟩ | exact fun h => by rw [hb, h]; rfl | exact fun h => by rw [h]; rfl | simp_all, trivial⟩) ?_
  refine WL.sect 3 22 true tt_ok sg0 rfl rfl (fun _ => trivial) ?_
  refine WL.sect 2 13 false tt_ok sg0 rfl rfl (fun hb => ⟨by first | exact id | exact ⟨hb, fun h => by rw [hb, h]; rfl⟩ | exact ⟨hb, id⟩ | exact fun h => by rw [hb, h]; rfl | exact fun h => by rw [h]; rfl | simp_all, trivial⟩) ?_
  refine WL.sect 3 27 true tt_ok sg0 rfl rfl (fun _ => trivial) ?_
  refine WL.sect 1 13 false tt_ok sg0 rfl rfl (fun hb => ⟨by first | exact id | exact ⟨hb, fun h => by rw [hb, h]; rfl⟩ | exact ⟨hb, id⟩ | exact fun h => by rw [hb, h]; rfl | exact fun h => by rw [h]; rfl | simp_all, trivial⟩) ?_
  refine WL.run 1 tt_ok sg0 rfl rfl ⟨by first | exact id | exact fun h => by rw [h]; rfl | simp_all, trivial⟩ ?_
  refine WL.nil ?_
  refine QT.n ?_
  refine WC.cond rfl (fun h7 => ?_) (fun h7 => ?_)
  · replace H := of_t H h7
    refine WC.seq ?_
    refine WC.region ?_
    refine WL.run 1 tt_ok sg0 rfl rfl trivial ?_
    refine WL.nil ?_
    refine QT.n ?_
    refine WC.ret ?_
    refine QT.r ?_
    cases H
    exact Ends.auto rfl rfl rfl trivial
  replace H := of_f H h7
  refine WC.skip ?_
  refine QT.n ?_
  refine WC.seq ?_
  refine WC.region ?_
  refine WL.run 1 tt_ok sg0 rfl rfl trivial ?_
  refine WL.nil ?_
  refine QT.n ?_
  refine WC.ret ?_
  cases H
  exact Ends.auto rfl rfl rfl trivial
theorem ref08_one_f : hasFunc Try.prog 21 Try.f21 := ⟨Try.func21, rfl, by kernel_rfl⟩

/-! ### logjam/logjamref08.Check -/
theorem ref08_Check_0 (a0 : List T_api_Decl) {r : Int × Int} (H : ref08_Check a0 = some r) : LJ.Spec Try.prog 9 [.d (slT enc_api_Decl a0)] [] (.tup [.d (.int .i64 r.1), .d (.int .i64 r.2)]) [] := by
  refine LJ.Spec.code Try.func9 rfl 25 rfl rfl [] rfl fun w0 F0 S0 B0 => ?_
  unfold ref08_Check at H
  refine WC.seq ?_
  refine WC.region ?_
  refine WL.run 2 tt_ok sg0 rfl rfl trivial ?_
  refine WL.nil ?_
  refine QT.n ?_
  refine WC.seq ?_
  refine WC.seq ?_
  refine WC.region ?_
  refine WL.run 3 tt_ok sg0 rfl rfl trivial ?_
  refine WL.nil ?_
  refine QT.n ?_
  refine WC.cond rfl (fun h1 => ?_) (fun h1 => ?_)
  · replace H := of_t H h1
    refine WC.seq ?_
    refine WC.region ?_
    refine WL.run 2 tt_ok sg0 rfl rfl trivial ?_
    refine WL.nil ?_
    refine QT.n ?_
    refine WC.ret ?_
    refine QT.r ?_
    cases H
    exact Ends.auto rfl rfl rfl trivial
  replace H := of_f H h1
  refine WC.skip ?_
  refine QT.n ?_
  refine WC.seq ?_
  refine WC.seq ?_
  refine WC.region ?_
  refine WL.run 1 tt_ok sg0 rfl rfl trivial ?_
  refine WL.nil ?_
  refine QT.n ?_
  refine WC.block ?_
  refine WC.loop (ι := {x : Nat × Int // ref08_Check_l3 a0 x.1 x.2 = some r}) (fun x => [(0, .d (slT enc_api_Decl a0)), (4, .d (.int .i64 x.1.2))]) (fun x => []) (fun x => x.1.1) ⟨(fuel, 0), H⟩ (Less.mk' ⟨rfl, rfl, trivial⟩ trivial) fun x => ?_
  obtain ⟨⟨k3, s2⟩, H⟩ := x
  rcases k3 with _ | k3
  · exact of_none H
  rw [ref08_Check_l3] at H
  refine WC.seq ?_
  refine WC.seq ?_
  refine WC.region ?_
  refine WL.run 4 tt_ok sg0 rfl rfl trivial ?_
  refine WL.nil ?_
  refine QT.n ?_
  refine WC.cond rfl (fun h4 => ?_) (fun h4 => ?_)
  · replace H := of_t H h4
    refine WC.skip ?_
    refine QT.n ?_
    refine WC.seq ?_
    refine WC.block ?_
    refine WC.seq ?_
    refine WC.region ?_
    obtain ⟨g5, H⟩ := of_need H
    refine WL.run 5 tt_ok sg0 rfl rfl ⟨⟨(nIn_ok g5).1, (nIn_ok g5).2, rfl⟩, trivial⟩ ?_
    obtain ⟨x6, hx6, H⟩ := of_bind H
    refine WL.call [] (ref08_one_0 _ _ hx6) ref08_one_f rfl rfl trivial rfl rfl rfl ?_
    refine WL.run 1 tt_ok sg0 rfl rfl trivial ?_
    refine WL.nil ?_
    refine QT.n ?_
    refine WC.seq ?_
    refine WC.region ?_
    refine WL.run 2 tt_ok sg0 rfl rfl trivial ?_
    refine WL.nil ?_
    refine QT.n ?_
    refine WC.cond rfl (fun h7 => ?_) (fun h7 => ?_)
    · replace H := of_t H h7
      refine WC.seq ?_
      refine WC.region ?_
      refine WL.run 4 tt_ok sg0 rfl rfl trivial ?_
      refine WL.nil ?_
      refine QT.n ?_
      refine WC.ret ?_
      refine QB.r (QT.r (QT.r (QB.r (QT.r ?_))))
      cases H
      exact Ends.auto rfl rfl rfl trivial
    replace H := of_f H h7
    refine WC.skip ?_
    refine QB.n (QT.n ?_)
    refine WC.region ?_
    refine WL.run 3 tt_ok sg0 rfl rfl trivial ?_
    refine WL.nil ?_
    refine QT.n ?_
    exact ⟨⟨(k3, IntKind.i64.wrap (s2 + 1)), H⟩, Nat.lt_succ_self _, Less.mk' ⟨rfl, rfl, trivial⟩ trivial⟩
  replace H := of_f H h4
  refine WC.exit ?_
  refine QT.x (QT.x (QB.hit (QT.n ?_)))
  refine WC.seq ?_
  refine WC.region ?_
  refine WL.run 2 tt_ok sg0 rfl rfl trivial ?_
  refine WL.nil ?_
  refine QT.n ?_
  refine WC.ret ?_
  cases H
  exact Ends.auto rfl rfl rfl trivial
theorem ref08_Check_f : hasFunc Try.prog 9 Try.f9 := ⟨Try.func9, rfl, by kernel_rfl⟩

/-! ### (*logjam/octet.Out).Num -/
theorem octet_Out_Num_0 (a0 : T_octet_Out) (a1 : Int) {r : T_octet_Out} (H : octet_Out_Num a0 a1 = some r) : LJ.Spec Try.prog 22 [.ptr 0 0, .d (.int .u64 a1)] [(0, .box 51 [.own 1]), (1, .row 5 1 (rowOf a0.b))] (.tup []) [(1, .row 5 1 (rowOf r.b)), (0, .box 51 [.own 1])] := by
  refine LJ.Spec.code Try.func22 rfl 33 rfl rfl [0] rfl fun w0 F0 S0 B0 => ?_
  unfold octet_Out_Num at H
  refine WC.seq ?_
  refine WC.seq ?_
  refine WC.region ?_
  refine WL.run 2 tt_ok sg0 rfl rfl trivial ?_
  refine WL.nil ?_
  refine QT.n ?_
  refine WC.cond rfl (fun h => absurd h (by decide)) (fun h => ?_)
  refine WC.skip ?_
  refine QT.n ?_
  obtain ⟨K1, hK1, H⟩ := of_withK H
  refine WC.cut (fun E m => ∃ s2 : Int × ByteArray, K1 s2 = some r ∧ LessW E m [(0, .ptr 0 0), (1, .d (.int .u64 s2.1))] [(0, .box 51 [.own 1]), (1, .row 5 1 (rowOf s2.2))]) ?_ ?_
  · refine WC.block ?_
    refine WC.loop (ι := {x : Nat × (Int × ByteArray) // octet_Out_Num_l4 K1 x.1 x.2 = some r}) (fun x => [(0, .ptr 0 0), (1, .d (.int .u64 x.1.2.1))]) (fun x => [(0, .box 51 [.own 1]), (1, .row 5 1 (rowOf x.1.2.2))]) (fun x => x.1.1) ⟨(fuel, (a1, a0.b)), H⟩ (Less.mk' ⟨rfl, rfl, trivial⟩ ⟨rfl, rfl, trivial⟩) fun x => ?_
    obtain ⟨⟨k4, s3⟩, H⟩ := x
    rcases k4 with _ | k4
    · exact of_none H
    rw [octet_Out_Num_l4] at H
    refine WC.seq ?_
    refine WC.seq ?_
    refine WC.region ?_
    refine WL.run 2 tt_ok sg0 rfl rfl trivial ?_
    refine WL.nil ?_
    refine QT.n ?_
    refine WC.cond rfl (fun h5 => ?_) (fun h5 => ?_)
    · replace H := of_t H h5
      refine WC.skip ?_
      refine QT.n ?_
      refine WC.block ?_
      refine WC.seq ?_
      refine WC.region ?_
      refine WL.run 8 tt_ok sg0 rfl rfl trivial ?_
      refine WL.eff 116 tt_ok et_ok eg0 rfl rfl rfl trivial ?_
      obtain ⟨g6, H⟩ := of_need H
      obtain ⟨g7, H⟩ := of_need H
      refine WL.eff 0 tt_ok et_ok eg0 rfl rfl rfl (appOK_bytes rfl (nCap_ok g6)) ?_
      refine WL.row 1 (rowOf (s3.2.push (UInt8.ofNat (Go.bits .or .u8 (IntKind.u8.wrap s3.1) 128).toNat))) rfl (rowOf_one (nIn_ok g7).1 (nIn_ok g7).2) rfl ?_
      refine WL.run 2 tt_ok sg0 rfl rfl trivial ?_
      refine WL.eff 0 tt_ok et_ok eg0 rfl rfl rfl trivial ?_
      refine WL.nil ?_
      refine QT.n ?_
      refine WC.region ?_
      refine WL.run 3 tt_ok sg0 rfl rfl trivial ?_
      refine WL.nil ?_
      refine QB.n (QT.n ?_)
      exact ⟨⟨(k4, (s3.1 / 2 ^ min (7 : Int).toNat IntKind.u64.bits, s3.2.push (UInt8.ofNat (Go.bits .or .u8 (IntKind.u8.wrap s3.1) 128).toNat))), H⟩, Nat.lt_succ_self _, Less.mk' ⟨rfl, rfl, trivial⟩ ⟨rfl, rfl, trivial⟩⟩
    replace H := of_f H h5
    refine WC.exit ?_
    refine QT.x (QT.x (QB.hit (QT.n ?_)))
    exact ⟨(s3.1, s3.2), H, LessW.mk' ⟨AVle.of rfl, AVle.of rfl, trivial⟩ ⟨rfl, rfl, trivial⟩⟩
  · rintro E m ⟨s2, H, hl⟩
    refine WC.lessW hl ?_
    replace H := (hK1 _).symm.trans H
    try dsimp only at H
    refine WC.region ?_
    refine WL.run 7 tt_ok sg0 rfl rfl trivial ?_
    refine WL.eff 129 tt_ok et_ok eg0 rfl rfl rfl trivial ?_
    obtain ⟨g8, H⟩ := of_need H
    obtain ⟨g9, H⟩ := of_need H
    refine WL.eff 0 tt_ok et_ok eg0 rfl rfl rfl (appOK_bytes rfl (nCap_ok g8)) ?_
    refine WL.row 1 (rowOf (s2.2.push (UInt8.ofNat (IntKind.u8.wrap s2.1).toNat))) rfl (rowOf_one (nIn_ok g9).1 (nIn_ok g9).2) rfl ?_
    refine WL.run 2 tt_ok sg0 rfl rfl trivial ?_
    refine WL.eff 0 tt_ok et_ok eg0 rfl rfl rfl trivial ?_
    refine WL.nil ?_
    cases H
    exact Ends.auton rfl rfl rfl ⟨rfl, rfl, trivial⟩
theorem octet_Out_Num_s (n0 n1 : Nat) (hn : nodupB [n0, n1] = true) (a0 : T_octet_Out) (a1 : Int) {r : T_octet_Out} (H : octet_Out_Num a0 a1 = some r) : LJ.Spec Try.prog 22 [.ptr n0 0, .d (.int .u64 a1)] [(n0, .box 51 [.own n1]), (n1, .row 5 1 (rowOf a0.b))] (.tup []) [(n1, .row 5 1 (rowOf r.b)), (n0, .box 51 [.own n1])] :=
  Spec.names [n0, n1] hn rfl rfl (octet_Out_Num_0 a0 a1 H)
theorem octet_Out_Num_f : hasFunc Try.prog 22 Try.f22 := ⟨Try.func22, rfl, by kernel_rfl⟩

/-! ### (*logjam/octet.Out).Byte -/
theorem octet_Out_Byte_0 (a0 : T_octet_Out) (a1 : Int) {r : T_octet_Out} (H : octet_Out_Byte a0 a1 = some r) : LJ.Spec Try.prog 23 [.ptr 0 0, .d (.int .i64 a1)] [(0, .box 51 [.own 1]), (1, .row 5 1 (rowOf a0.b))] (.tup []) [(1, .row 5 1 (rowOf r.b)), (0, .box 51 [.own 1])] := by
  refine LJ.Spec.code Try.func23 rfl 17 rfl rfl [0] rfl fun w0 F0 S0 B0 => ?_
  unfold octet_Out_Byte at H
  refine WC.seq ?_
  refine WC.region ?_
  refine WL.run 2 tt_ok sg0 rfl rfl trivial ?_
  refine WL.nil ?_
  refine QT.n ?_
  refine WC.cond rfl (fun h => ?_) (fun h => absurd h (by decide))
  refine WC.region ?_
  refine WL.run 7 tt_ok sg0 rfl rfl trivial ?_
  refine WL.eff 113 tt_ok et_ok eg0 rfl rfl rfl trivial ?_
  obtain ⟨g1, H⟩ := of_need H
  obtain ⟨g2, H⟩ := of_need H
  refine WL.eff 0 tt_ok et_ok eg0 rfl rfl rfl (appOK_bytes rfl (nCap_ok g1)) ?_
  refine WL.row 1 (rowOf (a0.b.push (UInt8.ofNat (IntKind.u8.wrap a1).toNat))) rfl (rowOf_one (nIn_ok g2).1 (nIn_ok g2).2) rfl ?_
  refine WL.run 2 tt_ok sg0 rfl rfl trivial ?_
  refine WL.eff 0 tt_ok et_ok eg0 rfl rfl rfl trivial ?_
  refine WL.nil ?_
  cases H
  exact Ends.auton rfl rfl rfl ⟨rfl, rfl, trivial⟩
theorem octet_Out_Byte_s (n0 n1 : Nat) (hn : nodupB [n0, n1] = true) (a0 : T_octet_Out) (a1 : Int) {r : T_octet_Out} (H : octet_Out_Byte a0 a1 = some r) : LJ.Spec Try.prog 23 [.ptr n0 0, .d (.int .i64 a1)] [(n0, .box 51 [.own n1]), (n1, .row 5 1 (rowOf a0.b))] (.tup []) [(n1, .row 5 1 (rowOf r.b)), (n0, .box 51 [.own n1])] :=
  Spec.names [n0, n1] hn rfl rfl (octet_Out_Byte_0 a0 a1 H)
theorem octet_Out_Byte_f : hasFunc Try.prog 23 Try.f23 := ⟨Try.func23, rfl, by kernel_rfl⟩

/-! ### (*logjam/octet.Out).Int -/
theorem octet_Out_Int_0 (a0 : T_octet_Out) (a1 : Int) {r : T_octet_Out} (H : octet_Out_Int a0 a1 = some r) : LJ.Spec Try.prog 24 [.ptr 0 0, .d (.int .i64 a1)] [(0, .box 51 [.own 1]), (1, .row 5 1 (rowOf a0.b))] (.tup []) [(1, .row 5 1 (rowOf r.b)), (0, .box 51 [.own 1])] := by
  refine LJ.Spec.code Try.func24 rfl 13 rfl rfl [0] rfl fun w0 F0 S0 B0 => ?_
  unfold octet_Out_Int at H
  refine WC.region ?_
  refine WL.run 8 tt_ok sg0 rfl rfl trivial ?_
  obtain ⟨x1, hx1, H⟩ := of_bind H
  refine WL.call [1] (octet_Out_Num_s 0 1 rfl _ _ hx1) octet_Out_Num_f rfl rfl ⟨rfl, rfl, trivial⟩ rfl rfl rfl ?_
  refine WL.nil ?_
  cases H
  exact Ends.auton rfl rfl rfl ⟨rfl, rfl, trivial⟩
theorem octet_Out_Int_s (n0 n1 : Nat) (hn : nodupB [n0, n1] = true) (a0 : T_octet_Out) (a1 : Int) {r : T_octet_Out} (H : octet_Out_Int a0 a1 = some r) : LJ.Spec Try.prog 24 [.ptr n0 0, .d (.int .i64 a1)] [(n0, .box 51 [.own n1]), (n1, .row 5 1 (rowOf a0.b))] (.tup []) [(n1, .row 5 1 (rowOf r.b)), (n0, .box 51 [.own n1])] :=
  Spec.names [n0, n1] hn rfl rfl (octet_Out_Int_0 a0 a1 H)
theorem octet_Out_Int_f : hasFunc Try.prog 24 Try.f24 := ⟨Try.func24, rfl, by kernel_rfl⟩

/-! ### (*logjam/octet.Out).Done -/
theorem octet_Out_Done_0 (a0 : T_octet_Out) {r : ByteArray} (H : octet_Out_Done a0 = some r) : LJ.Spec Try.prog 25 [.ptr 0 0] [(0, .box 51 [.own 1]), (1, .row 5 1 (rowOf a0.b))] (.d (.str r)) [(1, .row 5 1 (rowOf a0.b)), (0, .box 51 [.own 1])] := by
  refine LJ.Spec.code Try.func25 rfl 10 rfl rfl [0] rfl fun w0 F0 S0 B0 => ?_
  unfold octet_Out_Done at H
  refine WC.seq ?_
  refine WC.region ?_
  refine WL.run 1 tt_ok sg0 rfl rfl trivial ?_
  refine WL.nil ?_
  refine QT.n ?_
  refine WC.seq ?_
  refine WC.seq ?_
  refine WC.region ?_
  refine WL.run 2 tt_ok sg0 rfl rfl trivial ?_
  refine WL.nil ?_
  refine QT.n ?_
  refine WC.cond rfl (fun h => absurd h (by decide)) (fun h => ?_)
  refine WC.skip ?_
  refine QT.n ?_
  refine WC.seq ?_
  refine WC.region ?_
  refine WL.run 4 tt_ok sg0 rfl rfl trivial ?_
  refine WL.ownStr a0.b tt_ok rfl rfl rfl rfl ?_
  refine WL.run 1 tt_ok sg0 rfl rfl trivial ?_
  refine WL.nil ?_
  refine QT.n ?_
  refine WC.ret ?_
  cases H
  exact Ends.auto rfl rfl rfl ⟨rfl, rfl, trivial⟩
theorem octet_Out_Done_s (n0 n1 : Nat) (hn : nodupB [n0, n1] = true) (a0 : T_octet_Out) {r : ByteArray} (H : octet_Out_Done a0 = some r) : LJ.Spec Try.prog 25 [.ptr n0 0] [(n0, .box 51 [.own n1]), (n1, .row 5 1 (rowOf a0.b))] (.d (.str r)) [(n1, .row 5 1 (rowOf a0.b)), (n0, .box 51 [.own n1])] :=
  Spec.names [n0, n1] hn rfl rfl (octet_Out_Done_0 a0 H)
theorem octet_Out_Done_f : hasFunc Try.prog 25 Try.f25 := ⟨Try.func25, rfl, by kernel_rfl⟩

/-! ### logjam/decl.Put -/
theorem decl_Put_0 (a0 : List T_api_Decl) {r : ByteArray × Int} (H : decl_Put a0 = some r) : LJ.Spec Try.prog 10 [.d (slT enc_api_Decl a0)] [] (.tup [.d (.str r.1), .d (.int .i64 r.2)]) [] := by
  refine LJ.Spec.code Try.func10 rfl 69 rfl rfl [] rfl fun w0 F0 S0 B0 => ?_
  unfold decl_Put at H
  refine WC.seq ?_
  refine WC.region ?_
  refine WL.run 2 tt_ok sg0 rfl rfl trivial ?_
  refine WL.nil ?_
  refine QT.n ?_
  refine WC.seq ?_
  refine WC.seq ?_
  refine WC.region ?_
  refine WL.run 1 tt_ok sg0 rfl rfl trivial ?_
  obtain ⟨x1, hx1, H⟩ := of_bind H
  refine WL.call [] (decl_Check_0 _ hx1) decl_Check_f rfl rfl trivial rfl rfl rfl ?_
  refine WL.run 5 tt_ok sg0 rfl rfl trivial ?_
  refine WL.nil ?_
  refine QT.n ?_
  refine WC.seq ?_
  refine WC.region ?_
  refine WL.run 2 tt_ok sg0 rfl rfl trivial ?_
  refine WL.nil ?_
  refine QT.n ?_
  refine WC.cond rfl (fun h2 => ?_) (fun h2 => ?_)
  · replace H := of_t H h2
    refine WC.seq ?_
    refine WC.region ?_
    refine WL.run 3 tt_ok sg0 rfl rfl trivial ?_
    refine WL.nil ?_
    refine QT.n ?_
    refine WC.ret ?_
    refine QT.r ?_
    cases H
    exact Ends.auto rfl rfl rfl trivial
  replace H := of_f H h2
  refine WC.skip ?_
  refine QT.n ?_
  refine WC.seq ?_
  refine WC.region ?_
  refine WL.run 1 tt_ok sg0 rfl rfl trivial ?_
  refine WL.eff 118 tt_ok et_ok eg0 rfl rfl rfl trivial ?_
  refine WL.run 1 tt_ok sg0 rfl rfl trivial ?_
  refine WL.nil ?_
  refine QT.n ?_
  refine WC.seq ?_
  refine WC.region ?_
  refine WL.run 4 tt_ok sg0 rfl rfl trivial ?_
  refine WL.nilF 118 0 4180 5 1 rfl ?_
  refine WL.row 4180 (rowOf ByteArray.empty) rfl rfl rfl ?_
  obtain ⟨x3, hx3, H⟩ := of_bind H
  refine WL.call [4180] (octet_Out_Num_s 118 4180 rfl _ _ hx3) octet_Out_Num_f rfl rfl ⟨rfl, rfl, trivial⟩ rfl rfl rfl ?_
  refine WL.nil ?_
  refine QT.n ?_
  refine WC.seq ?_
  refine WC.seq ?_
  refine WC.region ?_
  refine WL.run 3 tt_ok sg0 rfl rfl trivial ?_
  refine WL.nil ?_
  refine QT.n ?_
  refine WC.block ?_
  refine WC.loop (ι := {x : Nat × (Int × ByteArray) // decl_Put_l5 a0 x.1 x.2 = some r}) (fun x => [(6, .ptr 118 0), (24, .d (slT enc_api_Decl a0)), (25, .d (.int .i64 (a0.length : Int))), (26, .d (.int .i64 x.1.2.1))]) (fun x => [(118, .box 51 [.own 4180]), (4180, .row 5 1 (rowOf x.1.2.2))]) (fun x => x.1.1) ⟨(fuel, (0, x3.b)), H⟩ (Less.mk' ⟨rfl, rfl, rfl, rfl, trivial⟩ ⟨rfl, rfl, trivial⟩) fun x => ?_
  obtain ⟨⟨k5, s4⟩, H⟩ := x
  rcases k5 with _ | k5
  · exact of_none H
  rw [decl_Put_l5] at H
  refine WC.seq ?_
  refine WC.region ?_
  refine WL.run 1 tt_ok sg0 rfl rfl trivial ?_
  refine WL.nil ?_
  refine QT.n ?_
  refine WC.seq ?_
  refine WC.cond rfl (fun h6 => ?_) (fun h6 => ?_)
  · replace H := of_t H h6
    refine WC.skip ?_
    refine QT.n ?_
    refine WC.seq ?_
    refine WC.block ?_
    refine WC.seq ?_
    refine WC.region ?_
    obtain ⟨g7, H⟩ := of_need H
    refine WL.run 2 tt_ok sg0 rfl rfl ⟨⟨(nIn_ok g7).1, (nIn_ok g7).2, rfl⟩, trivial⟩ ?_
    refine WL.alloc 108 tt_ok rfl rfl rfl ?_
    refine WL.eff 0 tt_ok et_ok eg0 rfl rfl rfl trivial ?_
    refine WL.nil ?_
    refine QT.n ?_
    refine WC.seq ?_
    refine WC.region ?_
    refine WL.run 3 tt_ok sg0 rfl rfl trivial ?_
    obtain ⟨x8, hx8, H⟩ := of_bind H
    refine WL.call [4180] (octet_Out_Byte_s 118 4180 rfl _ _ hx8) octet_Out_Byte_f rfl rfl ⟨rfl, rfl, trivial⟩ rfl rfl rfl ?_
    refine WL.nil ?_
    refine QT.n ?_
    refine WC.seq ?_
    refine WC.region ?_
    refine WL.run 2 tt_ok sg0 rfl rfl trivial ?_
    refine WL.nil ?_
    refine QT.n ?_
    refine WC.block ?_
    refine WC.seq ?_
    refine WC.region ?_
    refine WL.run 2 tt_ok sg0 rfl rfl trivial ?_
    refine WL.nil ?_
    refine QT.n ?_
    refine WC.cond rfl (fun h9 => ?_) (fun h9 => ?_)
    · replace H := of_t H h9
      refine WC.seq ?_
      refine WC.region ?_
      refine WL.run 4 tt_ok sg0 rfl rfl trivial ?_
      obtain ⟨x10, hx10, H⟩ := of_bind H
      refine WL.call [4180] (octet_Out_Num_s 118 4180 rfl _ _ hx10) octet_Out_Num_f rfl rfl ⟨rfl, rfl, trivial⟩ rfl rfl rfl ?_
      refine WL.nil ?_
      refine QT.n ?_
      refine WC.region ?_
      refine WL.run 4 tt_ok sg0 rfl rfl trivial ?_
      obtain ⟨x11, hx11, H⟩ := of_bind H
      refine WL.call [4180] (octet_Out_Num_s 118 4180 rfl _ _ hx11) octet_Out_Num_f rfl rfl ⟨rfl, rfl, trivial⟩ rfl rfl rfl ?_
      refine WL.nil ?_
      refine QB.n (QB.n (QT.n ?_))
      refine WC.region ?_
      refine WL.run 2 tt_ok sg0 rfl rfl trivial ?_
      refine WL.nil ?_
      refine QT.n ?_
      exact ⟨⟨(k5, (IntKind.i64.wrap (s4.1 + 1), x11.b)), H⟩, Nat.lt_succ_self _, Less.mk' ⟨rfl, rfl, rfl, rfl, trivial⟩ ⟨rfl, rfl, trivial⟩⟩
    replace H := of_f H h9
    refine WC.seq ?_
    refine WC.region ?_
    refine WL.run 2 tt_ok sg0 rfl rfl trivial ?_
    refine WL.nil ?_
    refine QT.n ?_
    refine WC.cond rfl (fun h12 => ?_) (fun h12 => ?_)
    · replace H := of_t H h12
      refine WC.region ?_
      refine WL.run 4 tt_ok sg0 rfl rfl trivial ?_
      obtain ⟨x13, hx13, H⟩ := of_bind H
      refine WL.call [4180] (octet_Out_Num_s 118 4180 rfl _ _ hx13) octet_Out_Num_f rfl rfl ⟨rfl, rfl, trivial⟩ rfl rfl rfl ?_
      refine WL.nil ?_
      refine QB.n (QB.n (QT.n ?_))
      refine WC.region ?_
      refine WL.run 2 tt_ok sg0 rfl rfl trivial ?_
      refine WL.nil ?_
      refine QT.n ?_
      exact ⟨⟨(k5, (IntKind.i64.wrap (s4.1 + 1), x13.b)), H⟩, Nat.lt_succ_self _, Less.mk' ⟨rfl, rfl, rfl, rfl, trivial⟩ ⟨rfl, rfl, trivial⟩⟩
    replace H := of_f H h12
    refine WC.seq ?_
    refine WC.region ?_
    refine WL.run 2 tt_ok sg0 rfl rfl trivial ?_
    refine WL.nil ?_
    refine QT.n ?_
    refine WC.cond rfl (fun h14 => ?_) (fun h14 => ?_)
    · replace H := of_t H h14
      refine WC.seq ?_
      refine WC.region ?_
      refine WL.run 3 tt_ok sg0 rfl rfl trivial ?_
      obtain ⟨x15, hx15, H⟩ := of_bind H
      refine WL.call [4180] (octet_Out_Int_s 118 4180 rfl _ _ hx15) octet_Out_Int_f rfl rfl ⟨rfl, rfl, trivial⟩ rfl rfl rfl ?_
      refine WL.nil ?_
      refine QT.n ?_
      refine WC.region ?_
      refine WL.run 4 tt_ok sg0 rfl rfl trivial ?_
      obtain ⟨x16, hx16, H⟩ := of_bind H
      refine WL.call [4180] (octet_Out_Num_s 118 4180 rfl _ _ hx16) octet_Out_Num_f rfl rfl ⟨rfl, rfl, trivial⟩ rfl rfl rfl ?_
      refine WL.nil ?_
      refine QB.n (QB.n (QT.n ?_))
      refine WC.region ?_
      refine WL.run 2 tt_ok sg0 rfl rfl trivial ?_
      refine WL.nil ?_
      refine QT.n ?_
      exact ⟨⟨(k5, (IntKind.i64.wrap (s4.1 + 1), x16.b)), H⟩, Nat.lt_succ_self _, Less.mk' ⟨rfl, rfl, rfl, rfl, trivial⟩ ⟨rfl, rfl, trivial⟩⟩
    replace H := of_f H h14
    refine WC.skip ?_
    refine QB.n (QB.n (QT.n ?_))
    refine WC.region ?_
    refine WL.run 2 tt_ok sg0 rfl rfl trivial ?_
    refine WL.nil ?_
    refine QT.n ?_
    exact ⟨⟨(k5, (IntKind.i64.wrap (s4.1 + 1), x8.b)), H⟩, Nat.lt_succ_self _, Less.mk' ⟨rfl, rfl, rfl, rfl, trivial⟩ ⟨rfl, rfl, trivial⟩⟩
  replace H := of_f H h6
  refine WC.exit ?_
  refine QT.x (QT.x (QB.hit (QT.n ?_)))
  refine WC.seq ?_
  refine WC.region ?_
  refine WL.run 1 tt_ok sg0 rfl rfl trivial ?_
  obtain ⟨x17, hx17, H⟩ := of_bind H
  refine WL.call [4180] (octet_Out_Done_s 118 4180 rfl _ hx17) octet_Out_Done_f rfl rfl ⟨rfl, rfl, trivial⟩ rfl rfl rfl ?_
  refine WL.run 2 tt_ok sg0 rfl rfl trivial ?_
  refine WL.nil ?_
  refine QT.n ?_
  refine WC.ret ?_
  cases H
  exact Ends.auto rfl rfl rfl trivial
theorem decl_Put_f : hasFunc Try.prog 10 Try.f10 := ⟨Try.func10, rfl, by kernel_rfl⟩

/-! ### logjam/logjamref01.Num -/
theorem ref01_Num_0 (a0 : Int) {r : ByteArray} (H : ref01_Num a0 = some r) : LJ.Spec Try.prog 26 [.d (.int .u64 a0)] [] (.d (.str r)) [] := by
  refine LJ.Spec.code Try.func26 rfl 22 rfl rfl [] rfl fun w0 F0 S0 B0 => ?_
  unfold ref01_Num at H
  refine WC.seq ?_
  refine WC.region ?_
  refine WL.run 1 tt_ok sg0 rfl rfl trivial ?_
  refine WL.nil ?_
  refine QT.n ?_
  refine WC.seq ?_
  refine WC.region ?_
  refine WL.run 1 tt_ok sg0 rfl rfl trivial ?_
  refine WL.nil ?_
  refine QT.n ?_
  refine WC.seq ?_
  refine WC.block ?_
  refine WC.loop (ι := {x : Nat × (Int × ByteArray) // ref01_Num_l2 x.1 x.2 = some r}) (fun x => [(0, .d (.int .u64 x.1.2.1)), (3, .d (.str x.1.2.2))]) (fun x => []) (fun x => x.1.1) ⟨(fuel, (a0, ByteArray.empty)), H⟩ (Less.mk' ⟨rfl, rfl, trivial⟩ trivial) fun x => ?_
  obtain ⟨⟨k2, s1⟩, H⟩ := x
  rcases k2 with _ | k2
  · exact of_none H
  rw [ref01_Num_l2] at H
  refine WC.seq ?_
  refine WC.seq ?_
  refine WC.region ?_
  refine WL.run 2 tt_ok sg0 rfl rfl trivial ?_
  refine WL.nil ?_
  refine QT.n ?_
  refine WC.cond rfl (fun h3 => ?_) (fun h3 => ?_)
  · replace H := of_t H h3
    refine WC.skip ?_
    refine QT.n ?_
    refine WC.block ?_
    refine WC.seq ?_
    refine WC.region ?_
    refine WL.run 5 tt_ok sg0 rfl rfl trivial ?_
    refine WL.eff 111 tt_ok et_ok eg0 rfl rfl rfl trivial ?_
    obtain ⟨g4, H⟩ := of_need H
    refine WL.row 111 (rowOf (ByteArray.empty.push (UInt8.ofNat (IntKind.u8.wrap (IntKind.u64.wrap ((Int.tmod s1.1 128) + 128))).toNat))) rfl (rowOf_one (s := .empty) (nIn_ok g4).1 (nIn_ok g4).2) rfl ?_
    refine WL.ownStr (ByteArray.empty.push (UInt8.ofNat (IntKind.u8.wrap (IntKind.u64.wrap ((Int.tmod s1.1 128) + 128))).toNat)) tt_ok rfl rfl rfl rfl ?_
    obtain ⟨g5, H⟩ := of_need H
    refine WL.run 2 tt_ok sg0 rfl rfl ⟨(nStr_ok g5), trivial⟩ ?_
    refine WL.nil ?_
    refine QT.n ?_
    refine WC.region ?_
    refine WL.run 3 tt_ok sg0 rfl rfl trivial ?_
    refine WL.nil ?_
    refine QB.n (QT.n ?_)
    exact ⟨⟨(k2, (IntKind.u64.wrap (Int.tdiv s1.1 128), s1.2 ++ (ByteArray.empty.push (UInt8.ofNat (IntKind.u8.wrap (IntKind.u64.wrap ((Int.tmod s1.1 128) + 128))).toNat)))), H⟩, Nat.lt_succ_self _, Less.mk' ⟨rfl, rfl, trivial⟩ trivial⟩
  replace H := of_f H h3
  refine WC.exit ?_
  refine QT.x (QT.x (QB.hit (QT.n ?_)))
  refine WC.seq ?_
  refine WC.region ?_
  refine WL.run 3 tt_ok sg0 rfl rfl trivial ?_
  refine WL.eff 119 tt_ok et_ok eg0 rfl rfl rfl trivial ?_
  obtain ⟨g6, H⟩ := of_need H
  refine WL.row 119 (rowOf (ByteArray.empty.push (UInt8.ofNat (IntKind.u8.wrap s1.1).toNat))) rfl (rowOf_one (s := .empty) (nIn_ok g6).1 (nIn_ok g6).2) rfl ?_
  refine WL.ownStr (ByteArray.empty.push (UInt8.ofNat (IntKind.u8.wrap s1.1).toNat)) tt_ok rfl rfl rfl rfl ?_
  obtain ⟨g7, H⟩ := of_need H
  refine WL.run 2 tt_ok sg0 rfl rfl ⟨(nStr_ok g7), trivial⟩ ?_
  refine WL.nil ?_
  refine QT.n ?_
  refine WC.ret ?_
  cases H
  exact Ends.auto rfl rfl rfl trivial
theorem ref01_Num_f : hasFunc Try.prog 26 Try.f26 := ⟨Try.func26, rfl, by kernel_rfl⟩

/-! ### logjam/logjamref01.Int -/
theorem ref01_Int_0 (a0 : Int) {r : ByteArray} (H : ref01_Int a0 = some r) : LJ.Spec Try.prog 27 [.d (.int .i64 a0)] [] (.d (.str r)) [] := by
  refine LJ.Spec.code Try.func27 rfl 16 rfl rfl [] rfl fun w0 F0 S0 B0 => ?_
  unfold ref01_Int at H
  refine WC.seq ?_
  refine WC.region ?_
  refine WL.run 1 tt_ok sg0 rfl rfl trivial ?_
  refine WL.nil ?_
  refine QT.n ?_
  refine WC.seq ?_
  refine WC.seq ?_
  refine WC.region ?_
  refine WL.run 2 tt_ok sg0 rfl rfl trivial ?_
  refine WL.nil ?_
  refine QT.n ?_
  refine WC.cond rfl (fun h1 => ?_) (fun h1 => ?_)
  · replace H := of_t H h1
    refine WC.seq ?_
    refine WC.region ?_
    refine WL.run 3 tt_ok sg0 rfl rfl trivial ?_
    obtain ⟨x2, hx2, H⟩ := of_bind H
    refine WL.call [] (ref01_Num_0 _ hx2) ref01_Num_f rfl rfl trivial rfl rfl rfl ?_
    refine WL.run 1 tt_ok sg0 rfl rfl trivial ?_
    refine WL.nil ?_
    refine QT.n ?_
    refine WC.ret ?_
    refine QT.r ?_
    cases H
    exact Ends.auto rfl rfl rfl trivial
  replace H := of_f H h1
  refine WC.skip ?_
  refine QT.n ?_
  refine WC.seq ?_
  refine WC.region ?_
  refine WL.run 6 tt_ok sg0 rfl rfl trivial ?_
  obtain ⟨x3, hx3, H⟩ := of_bind H
  refine WL.call [] (ref01_Num_0 _ hx3) ref01_Num_f rfl rfl trivial rfl rfl rfl ?_
  refine WL.run 1 tt_ok sg0 rfl rfl trivial ?_
  refine WL.nil ?_
  refine QT.n ?_
  refine WC.ret ?_
  cases H
  exact Ends.auto rfl rfl rfl trivial
theorem ref01_Int_f : hasFunc Try.prog 27 Try.f27 := ⟨Try.func27, rfl, by kernel_rfl⟩

/-! ### logjam/logjamref08.Put -/
theorem ref08_Put_0 (a0 : List T_api_Decl) {r : ByteArray} (H : ref08_Put a0 = some r) : LJ.Spec Try.prog 11 [.d (slT enc_api_Decl a0)] [] (.d (.str r)) [] := by
  refine LJ.Spec.code Try.func11 rfl 64 rfl rfl [] rfl fun w0 F0 S0 B0 => ?_
  unfold ref08_Put at H
  refine WC.seq ?_
  refine WC.region ?_
  refine WL.run 1 tt_ok sg0 rfl rfl trivial ?_
  refine WL.nil ?_
  refine QT.n ?_
  refine WC.seq ?_
  refine WC.region ?_
  refine WL.run 3 tt_ok sg0 rfl rfl trivial ?_
  obtain ⟨x1, hx1, H⟩ := of_bind H
  refine WL.call [] (ref01_Num_0 _ hx1) ref01_Num_f rfl rfl trivial rfl rfl rfl ?_
  refine WL.run 1 tt_ok sg0 rfl rfl trivial ?_
  refine WL.nil ?_
  refine QT.n ?_
  refine WC.seq ?_
  refine WC.seq ?_
  refine WC.region ?_
  refine WL.run 1 tt_ok sg0 rfl rfl trivial ?_
  refine WL.nil ?_
  refine QT.n ?_
  refine WC.block ?_
  refine WC.loop (ι := {x : Nat × (ByteArray × Int) // ref08_Put_l3 a0 x.1 x.2 = some r}) (fun x => [(0, .d (slT enc_api_Decl a0)), (3, .d (.str x.1.2.1)), (4, .d (.int .i64 x.1.2.2))]) (fun x => []) (fun x => x.1.1) ⟨(fuel, (x1, 0)), H⟩ (Less.mk' ⟨rfl, rfl, rfl, trivial⟩ trivial) fun x => ?_
  obtain ⟨⟨k3, s2⟩, H⟩ := x
  rcases k3 with _ | k3
  · exact of_none H
  rw [ref08_Put_l3] at H
  refine WC.seq ?_
  refine WC.seq ?_
  refine WC.region ?_
  refine WL.run 4 tt_ok sg0 rfl rfl trivial ?_
  refine WL.nil ?_
  refine QT.n ?_
  refine WC.cond rfl (fun h4 => ?_) (fun h4 => ?_)
  · replace H := of_t H h4
    refine WC.skip ?_
    refine QT.n ?_
    obtain ⟨K5, hK5, H⟩ := of_withK H
    refine WC.cut (fun E m => ∃ s6 : ByteArray, K5 s6 = some r ∧ LessW E m [(0, .d (slT enc_api_Decl a0)), (3, .d (.str s6)), (4, .d (.int .i64 s2.2))] []) ?_ ?_
    · refine WC.block ?_
      refine WC.seq ?_
      refine WC.region ?_
      obtain ⟨g7, H⟩ := of_need H
      refine WL.run 4 tt_ok sg0 rfl rfl ⟨⟨(nIn_ok g7).1, (nIn_ok g7).2, rfl⟩, trivial⟩ ?_
      refine WL.alloc 105 tt_ok rfl rfl rfl ?_
      refine WL.eff 0 tt_ok et_ok eg0 rfl rfl rfl trivial ?_
      refine WL.nil ?_
      refine QT.n ?_
      refine WC.seq ?_
      refine WC.region ?_
      refine WL.run 4 tt_ok sg0 rfl rfl trivial ?_
      refine WL.eff 124 tt_ok et_ok eg0 rfl rfl rfl trivial ?_
      obtain ⟨g8, H⟩ := of_need H
      refine WL.row 124 (rowOf (ByteArray.empty.push (UInt8.ofNat (IntKind.u8.wrap ((a0.getD s2.2.toNat default).Kind)).toNat))) rfl (rowOf_one (s := .empty) (nIn_ok g8).1 (nIn_ok g8).2) rfl ?_
      refine WL.ownStr (ByteArray.empty.push (UInt8.ofNat (IntKind.u8.wrap ((a0.getD s2.2.toNat default).Kind)).toNat)) tt_ok rfl rfl rfl rfl ?_
      obtain ⟨g9, H⟩ := of_need H
      refine WL.run 2 tt_ok sg0 rfl rfl ⟨(nStr_ok g9), trivial⟩ ?_
      refine WL.nil ?_
      refine QT.n ?_
      refine WC.seq ?_
      refine WC.seq ?_
      refine WC.region ?_
      refine WL.run 4 tt_ok sg0 rfl rfl trivial ?_
      refine WL.sect 3 3 false tt_ok sg0 rfl rfl (fun _ => trivial) ?_
      refine WL.run 1 tt_ok sg0 rfl rfl ⟨by first | exact id | exact fun h => by rw [h]; rfl | simp_all, trivial⟩ ?_
      refine WL.nil ?_
      refine QT.n ?_
      refine WC.cond rfl (fun h10 => ?_) (fun h10 => ?_)
      · replace H := of_t H h10
        refine WC.region ?_
        refine WL.run 4 tt_ok sg0 rfl rfl trivial ?_
        obtain ⟨x11, hx11, H⟩ := of_bind H
        refine WL.call [] (ref01_Num_0 _ hx11) ref01_Num_f rfl rfl trivial rfl rfl rfl ?_
        obtain ⟨g12, H⟩ := of_need H
        refine WL.run 2 tt_ok sg0 rfl rfl ⟨(nStr_ok g12), trivial⟩ ?_
        refine WL.nil ?_
        refine QT.n ?_
        refine WC.seq ?_
        refine WC.seq ?_
        refine WC.region ?_
        refine WL.run 3 tt_ok sg0 rfl rfl trivial ?_
        refine WL.nil ?_
        refine QT.n ?_
        refine WC.cond rfl (fun h13 => ?_) (fun h13 => ?_)
        · replace H := of_t H h13
          refine WC.region ?_
          refine WL.run 3 tt_ok sg0 rfl rfl trivial ?_
          obtain ⟨x14, hx14, H⟩ := of_bind H
          refine WL.call [] (ref01_Int_0 _ hx14) ref01_Int_f rfl rfl trivial rfl rfl rfl ?_
          obtain ⟨g15, H⟩ := of_need H
          refine WL.run 2 tt_ok sg0 rfl rfl ⟨(nStr_ok g15), trivial⟩ ?_
          refine WL.nil ?_
          refine QT.n ?_
          refine WC.seq ?_
          refine WC.region ?_
          refine WL.run 4 tt_ok sg0 rfl rfl trivial ?_
          refine WL.sect 3 3 false tt_ok sg0 rfl rfl (fun _ => trivial) ?_
          refine WL.run 1 tt_ok sg0 rfl rfl ⟨by first | exact id | exact fun h => by rw [h]; rfl | simp_all, trivial⟩ ?_
          refine WL.nil ?_
          refine QT.n ?_
          refine WC.cond rfl (fun h16 => ?_) (fun h16 => ?_)
          · replace H := of_t H h16
            refine WC.region ?_
            refine WL.run 4 tt_ok sg0 rfl rfl trivial ?_
            obtain ⟨x17, hx17, H⟩ := of_bind H
            refine WL.call [] (ref01_Num_0 _ hx17) ref01_Num_f rfl rfl trivial rfl rfl rfl ?_
            obtain ⟨g18, H⟩ := of_need H
            refine WL.run 2 tt_ok sg0 rfl rfl ⟨(nStr_ok g18), trivial⟩ ?_
            refine WL.nil ?_
            refine QB.n (QT.n ?_)
            exact ⟨(((s2.1 ++ (ByteArray.empty.push (UInt8.ofNat (IntKind.u8.wrap ((a0.getD s2.2.toNat default).Kind)).toNat))) ++ x11) ++ x14) ++ x17, H, LessW.mk' ⟨AVle.of rfl, AVle.of rfl, AVle.of rfl, trivial⟩ trivial⟩
          replace H := of_f H h16
          refine WC.skip ?_
          refine QB.n (QT.n ?_)
          exact ⟨((s2.1 ++ (ByteArray.empty.push (UInt8.ofNat (IntKind.u8.wrap ((a0.getD s2.2.toNat default).Kind)).toNat))) ++ x11) ++ x14, H, LessW.mk' ⟨AVle.of rfl, AVle.of rfl, AVle.of rfl, trivial⟩ trivial⟩
        replace H := of_f H h13
        refine WC.skip ?_
        refine QT.n ?_
        refine WC.seq ?_
        refine WC.region ?_
        refine WL.run 4 tt_ok sg0 rfl rfl trivial ?_
        refine WL.sect 3 3 false tt_ok sg0 rfl rfl (fun _ => trivial) ?_
        refine WL.run 1 tt_ok sg0 rfl rfl ⟨by first | exact id | exact fun h => by rw [h]; rfl | simp_all, trivial⟩ ?_
        refine WL.nil ?_
        refine QT.n ?_
        refine WC.cond rfl (fun h19 => ?_) (fun h19 => ?_)
        · replace H := of_t H h19
          refine WC.region ?_
          refine WL.run 4 tt_ok sg0 rfl rfl trivial ?_
          obtain ⟨x20, hx20, H⟩ := of_bind H
          refine WL.call [] (ref01_Num_0 _ hx20) ref01_Num_f rfl rfl trivial rfl rfl rfl ?_
          obtain ⟨g21, H⟩ := of_need H
          refine WL.run 2 tt_ok sg0 rfl rfl ⟨(nStr_ok g21), trivial⟩ ?_
          refine WL.nil ?_
          refine QB.n (QT.n ?_)
          exact ⟨((s2.1 ++ (ByteArray.empty.push (UInt8.ofNat (IntKind.u8.wrap ((a0.getD s2.2.toNat default).Kind)).toNat))) ++ x11) ++ x20, H, LessW.mk' ⟨AVle.of rfl, AVle.of rfl, AVle.of rfl, trivial⟩ trivial⟩
        replace H := of_f H h19
        refine WC.skip ?_
        refine QB.n (QT.n ?_)
        exact ⟨(s2.1 ++ (ByteArray.empty.push (UInt8.ofNat (IntKind.u8.wrap ((a0.getD s2.2.toNat default).Kind)).toNat))) ++ x11, H, LessW.mk' ⟨AVle.of rfl, AVle.of rfl, AVle.of rfl, trivial⟩ trivial⟩
      replace H := of_f H h10
      refine WC.skip ?_
      refine QT.n ?_
      refine WC.seq ?_
      refine WC.seq ?_
      refine WC.region ?_
      refine WL.run 3 tt_ok sg0 rfl rfl trivial ?_
      refine WL.nil ?_
      refine QT.n ?_
      refine WC.cond rfl (fun h22 => ?_) (fun h22 => ?_)
      · replace H := of_t H h22
        refine WC.region ?_
        refine WL.run 3 tt_ok sg0 rfl rfl trivial ?_
        obtain ⟨x23, hx23, H⟩ := of_bind H
        refine WL.call [] (ref01_Int_0 _ hx23) ref01_Int_f rfl rfl trivial rfl rfl rfl ?_
        obtain ⟨g24, H⟩ := of_need H
        refine WL.run 2 tt_ok sg0 rfl rfl ⟨(nStr_ok g24), trivial⟩ ?_
        refine WL.nil ?_
        refine QT.n ?_
        refine WC.seq ?_
        refine WC.region ?_
        refine WL.run 4 tt_ok sg0 rfl rfl trivial ?_
        refine WL.sect 3 3 false tt_ok sg0 rfl rfl (fun _ => trivial) ?_
        refine WL.run 1 tt_ok sg0 rfl rfl ⟨by first | exact id | exact fun h => by rw [h]; rfl | simp_all, trivial⟩ ?_
        refine WL.nil ?_
        refine QT.n ?_
        refine WC.cond rfl (fun h25 => ?_) (fun h25 => ?_)
        · replace H := of_t H h25
          refine WC.region ?_
          refine WL.run 4 tt_ok sg0 rfl rfl trivial ?_
          obtain ⟨x26, hx26, H⟩ := of_bind H
          refine WL.call [] (ref01_Num_0 _ hx26) ref01_Num_f rfl rfl trivial rfl rfl rfl ?_
          obtain ⟨g27, H⟩ := of_need H
          refine WL.run 2 tt_ok sg0 rfl rfl ⟨(nStr_ok g27), trivial⟩ ?_
          refine WL.nil ?_
          refine QB.n (QT.n ?_)
          exact ⟨((s2.1 ++ (ByteArray.empty.push (UInt8.ofNat (IntKind.u8.wrap ((a0.getD s2.2.toNat default).Kind)).toNat))) ++ x23) ++ x26, H, LessW.mk' ⟨AVle.of rfl, AVle.of rfl, AVle.of rfl, trivial⟩ trivial⟩
        replace H := of_f H h25
        refine WC.skip ?_
        refine QB.n (QT.n ?_)
        exact ⟨(s2.1 ++ (ByteArray.empty.push (UInt8.ofNat (IntKind.u8.wrap ((a0.getD s2.2.toNat default).Kind)).toNat))) ++ x23, H, LessW.mk' ⟨AVle.of rfl, AVle.of rfl, AVle.of rfl, trivial⟩ trivial⟩
      replace H := of_f H h22
      refine WC.skip ?_
      refine QT.n ?_
      refine WC.seq ?_
      refine WC.region ?_
      refine WL.run 4 tt_ok sg0 rfl rfl trivial ?_
      refine WL.sect 3 3 false tt_ok sg0 rfl rfl (fun _ => trivial) ?_
      refine WL.run 1 tt_ok sg0 rfl rfl ⟨by first | exact id | exact fun h => by rw [h]; rfl | simp_all, trivial⟩ ?_
      refine WL.nil ?_
      refine QT.n ?_
      refine WC.cond rfl (fun h28 => ?_) (fun h28 => ?_)
      · replace H := of_t H h28
        refine WC.region ?_
        refine WL.run 4 tt_ok sg0 rfl rfl trivial ?_
        obtain ⟨x29, hx29, H⟩ := of_bind H
        refine WL.call [] (ref01_Num_0 _ hx29) ref01_Num_f rfl rfl trivial rfl rfl rfl ?_
        obtain ⟨g30, H⟩ := of_need H
        refine WL.run 2 tt_ok sg0 rfl rfl ⟨(nStr_ok g30), trivial⟩ ?_
        refine WL.nil ?_
        refine QB.n (QT.n ?_)
        exact ⟨(s2.1 ++ (ByteArray.empty.push (UInt8.ofNat (IntKind.u8.wrap ((a0.getD s2.2.toNat default).Kind)).toNat))) ++ x29, H, LessW.mk' ⟨AVle.of rfl, AVle.of rfl, AVle.of rfl, trivial⟩ trivial⟩
      replace H := of_f H h28
      refine WC.skip ?_
      refine QB.n (QT.n ?_)
      exact ⟨s2.1 ++ (ByteArray.empty.push (UInt8.ofNat (IntKind.u8.wrap ((a0.getD s2.2.toNat default).Kind)).toNat)), H, LessW.mk' ⟨AVle.of rfl, AVle.of rfl, AVle.of rfl, trivial⟩ trivial⟩
    · rintro E m ⟨s6, H, hl⟩
      refine WC.lessW hl ?_
      replace H := (hK5 _).symm.trans H
      try dsimp only at H
      refine WC.region ?_
      refine WL.run 3 tt_ok sg0 rfl rfl trivial ?_
      refine WL.nil ?_
      refine QT.n ?_
      exact ⟨⟨(k3, (s6, IntKind.i64.wrap (s2.2 + 1))), H⟩, Nat.lt_succ_self _, Less.mk' ⟨rfl, rfl, rfl, trivial⟩ trivial⟩
  replace H := of_f H h4
  refine WC.exit ?_
  refine QT.x (QT.x (QB.hit (QT.n ?_)))
  refine WC.seq ?_
  refine WC.region ?_
  refine WL.run 2 tt_ok sg0 rfl rfl trivial ?_
  refine WL.nil ?_
  refine QT.n ?_
  refine WC.ret ?_
  cases H
  exact Ends.auto rfl rfl rfl trivial
theorem ref08_Put_f : hasFunc Try.prog 11 Try.f11 := ⟨Try.func11, rfl, by kernel_rfl⟩

/-! ### logjam/octet.Open -/
theorem octet_Open_0 (a0 : ByteArray) {r : T_octet_In} (H : octet_Open a0 = some r) : LJ.Spec Try.prog 28 [.d (.str a0)] [] (.ptr 0 0) [(0, .box 74 [.d (.str r.s), .d (.int .i64 r.at_), .d (.int .i64 r.err)])] := by
  refine LJ.Spec.code Try.func28 rfl 6 rfl rfl [] rfl fun w0 F0 S0 B0 => ?_
  unfold octet_Open at H
  refine WC.seq ?_
  refine WC.region ?_
  refine WL.run 1 tt_ok sg0 rfl rfl trivial ?_
  refine WL.nil ?_
  refine QT.n ?_
  refine WC.seq ?_
  refine WC.region ?_
  refine WL.run 2 tt_ok sg0 rfl rfl trivial ?_
  refine WL.eff 0 tt_ok et_ok eg0 rfl rfl rfl trivial ?_
  refine WL.run 1 tt_ok sg0 rfl rfl trivial ?_
  refine WL.nil ?_
  refine QT.n ?_
  refine WC.ret ?_
  cases H
  exact Ends.auto rfl rfl rfl ⟨rfl, trivial⟩
theorem octet_Open_s (n0 : Nat) (hn : nodupB [n0] = true) (a0 : ByteArray) {r : T_octet_In} (H : octet_Open a0 = some r) : LJ.Spec Try.prog 28 [.d (.str a0)] [] (.ptr n0 0) [(n0, .box 74 [.d (.str r.s), .d (.int .i64 r.at_), .d (.int .i64 r.err)])] :=
  Spec.names [n0] hn rfl rfl (octet_Open_0 a0 H)
theorem octet_Open_f : hasFunc Try.prog 28 Try.f28 := ⟨Try.func28, rfl, by kernel_rfl⟩

/-! ### (*logjam/octet.In).fail -/
theorem octet_In_fail_0 (a0 : T_octet_In) (a1 : Int) {r : T_octet_In} (H : octet_In_fail a0 a1 = some r) : LJ.Spec Try.prog 39 [.ptr 0 0, .d (.int .i64 a1)] [(0, .box 74 [.d (.str a0.s), .d (.int .i64 a0.at_), .d (.int .i64 a0.err)])] (.tup []) [(0, .box 74 [.d (.str r.s), .d (.int .i64 r.at_), .d (.int .i64 r.err)])] := by
  refine LJ.Spec.code Try.func39 rfl 21 rfl rfl [0] rfl fun w0 F0 S0 B0 => ?_
  unfold octet_In_fail at H
  refine WC.seq ?_
  refine WC.region ?_
  refine WL.run 5 tt_ok sg0 rfl rfl trivial ?_
  refine WL.nil ?_
  refine QT.n ?_
  refine WC.cond rfl (fun h1 => ?_) (fun h1 => ?_)
  · replace H := of_t H h1
    refine WC.region ?_
    refine WL.run 10 tt_ok sg0 rfl rfl trivial ?_
    refine WL.eff 0 tt_ok et_ok eg0 rfl rfl rfl trivial ?_
    refine WL.run 2 tt_ok sg0 rfl rfl trivial ?_
    refine WL.eff 0 tt_ok et_ok eg0 rfl rfl rfl trivial ?_
    refine WL.nil ?_
    cases H
    exact Ends.auton rfl rfl rfl ⟨rfl, trivial⟩
  replace H := of_f H h1
  refine WC.skip ?_
  cases H
  exact Ends.auton rfl rfl rfl ⟨rfl, trivial⟩
theorem octet_In_fail_s (n0 : Nat) (hn : nodupB [n0] = true) (a0 : T_octet_In) (a1 : Int) {r : T_octet_In} (H : octet_In_fail a0 a1 = some r) : LJ.Spec Try.prog 39 [.ptr n0 0, .d (.int .i64 a1)] [(n0, .box 74 [.d (.str a0.s), .d (.int .i64 a0.at_), .d (.int .i64 a0.err)])] (.tup []) [(n0, .box 74 [.d (.str r.s), .d (.int .i64 r.at_), .d (.int .i64 r.err)])] :=
  Spec.names [n0] hn rfl rfl (octet_In_fail_0 a0 a1 H)
theorem octet_In_fail_f : hasFunc Try.prog 39 Try.f39 := ⟨Try.func39, rfl, by kernel_rfl⟩

/-! ### (*logjam/octet.In).Byte -/
theorem octet_In_Byte_0 (a0 : T_octet_In) {r : Int × T_octet_In} (H : octet_In_Byte a0 = some r) : LJ.Spec Try.prog 38 [.ptr 0 0] [(0, .box 74 [.d (.str a0.s), .d (.int .i64 a0.at_), .d (.int .i64 a0.err)])] (.d (.int .i64 r.1)) [(0, .box 74 [.d (.str r.2.s), .d (.int .i64 r.2.at_), .d (.int .i64 r.2.err)])] := by
  refine LJ.Spec.code Try.func38 rfl 35 rfl rfl [0] rfl fun w0 F0 S0 B0 => ?_
  unfold octet_In_Byte at H
  refine WC.seq ?_
  refine WC.region ?_
  refine WL.run 1 tt_ok sg0 rfl rfl trivial ?_
  refine WL.nil ?_
  refine QT.n ?_
  refine WC.seq ?_
  refine WC.seq ?_
  refine WC.region ?_
  refine WL.run 2 tt_ok sg0 rfl rfl trivial ?_
  refine WL.nil ?_
  refine QT.n ?_
  refine WC.cond rfl (fun h => absurd h (by decide)) (fun h => ?_)
  refine WC.skip ?_
  refine QT.n ?_
  refine WC.seq ?_
  refine WC.seq ?_
  refine WC.heldP (.one 0 true (.one 1 true (.one 2 true (.one 3 true (.one 4 true (.one 5 true (.one 6 true (.one 7 true (.one 8 true (.one 9 true .done)))))))))) [0] [0] rfl (by kernel_rfl) rfl (by kernel_rfl) rfl rfl (fun _ h => h) rfl rfl rfl (fun _ _ _ h => h) fun FK NK wK K => ?_
  refine WH.run 10 tt_ok rfl rfl rfl rfl trivial ?_
  refine WH.nil rfl ?_
  refine QT.n ?_
  refine WC.cond rfl (fun h1 => ?_) (fun h1 => ?_)
  · replace H := of_t H h1
    refine WC.seq ?_
    refine WC.region ?_
    refine WL.run 1 tt_ok sg0 rfl rfl trivial ?_
    obtain ⟨x2, hx2, H⟩ := of_bind H
    refine WL.call [] (octet_In_fail_s 0 rfl _ _ hx2) octet_In_fail_f rfl rfl ⟨rfl, trivial⟩ rfl rfl rfl ?_
    refine WL.nil ?_
    refine QT.n ?_
    refine WC.seq ?_
    refine WC.region ?_
    refine WL.run 1 tt_ok sg0 rfl rfl trivial ?_
    refine WL.nil ?_
    refine QT.n ?_
    refine WC.ret ?_
    refine QT.r ?_
    cases H
    exact Ends.auto rfl rfl rfl ⟨rfl, trivial⟩
  replace H := of_f H h1
  refine WC.skip ?_
  refine QT.n ?_
  refine WC.seq ?_
  refine WC.region ?_
  refine WL.run 7 tt_ok sg0 rfl rfl trivial ?_
  refine WL.eff 0 tt_ok et_ok eg0 rfl rfl rfl trivial ?_
  refine WL.nil ?_
  refine QT.n ?_
  refine WC.seq ?_
  refine WC.heldP (.one 0 true (.one 1 true (.one 2 true (.one 3 true (.one 4 true (.one 5 true (.one 6 true (.one 7 true (.one 8 true (.one 9 true (.one 10 true (.one 11 true .done)))))))))))) [0] [0] rfl (by kernel_rfl) rfl (by kernel_rfl) rfl rfl (fun _ h => h) rfl rfl rfl (fun _ _ _ h => h) fun FK NK wK K => ?_
  obtain ⟨g3, H⟩ := of_need H
  refine WH.run 12 tt_ok rfl rfl rfl rfl ⟨(nIn_ok g3), trivial⟩ ?_
  refine WH.nil rfl ?_
  refine QT.n ?_
  refine WC.ret ?_
  cases H
  exact Ends.auto rfl rfl rfl ⟨rfl, trivial⟩
theorem octet_In_Byte_s (n0 : Nat) (hn : nodupB [n0] = true) (a0 : T_octet_In) {r : Int × T_octet_In} (H : octet_In_Byte a0 = some r) : LJ.Spec Try.prog 38 [.ptr n0 0] [(n0, .box 74 [.d (.str a0.s), .d (.int .i64 a0.at_), .d (.int .i64 a0.err)])] (.d (.int .i64 r.1)) [(n0, .box 74 [.d (.str r.2.s), .d (.int .i64 r.2.at_), .d (.int .i64 r.2.err)])] :=
  Spec.names [n0] hn rfl rfl (octet_In_Byte_0 a0 H)
theorem octet_In_Byte_f : hasFunc Try.prog 38 Try.f38 := ⟨Try.func38, rfl, by kernel_rfl⟩

/-! ### (*logjam/octet.In).Num -/
theorem octet_In_Num_0 (a0 : T_octet_In) {r : Int × T_octet_In} (H : octet_In_Num a0 = some r) : LJ.Spec Try.prog 29 [.ptr 0 0] [(0, .box 74 [.d (.str a0.s), .d (.int .i64 a0.at_), .d (.int .i64 a0.err)])] (.d (.int .u64 r.1)) [(0, .box 74 [.d (.str r.2.s), .d (.int .i64 r.2.at_), .d (.int .i64 r.2.err)])] := by
  refine LJ.Spec.code Try.func29 rfl 49 rfl rfl [0] rfl fun w0 F0 S0 B0 => ?_
  unfold octet_In_Num at H
  refine WC.seq ?_
  refine WC.region ?_
  refine WL.run 1 tt_ok sg0 rfl rfl trivial ?_
  refine WL.nil ?_
  refine QT.n ?_
  refine WC.seq ?_
  refine WC.region ?_
  refine WL.run 1 tt_ok sg0 rfl rfl trivial ?_
  refine WL.nil ?_
  refine QT.n ?_
  refine WC.seq ?_
  refine WC.seq ?_
  refine WC.region ?_
  refine WL.run 1 tt_ok sg0 rfl rfl trivial ?_
  refine WL.nil ?_
  refine QT.n ?_
  refine WC.block ?_
  refine WC.loop (ι := {x : Nat × (Int × Int × ByteArray × Int × Int) // octet_In_Num_l2 x.1 x.2 = some r}) (fun x => [(0, .ptr 0 0), (3, .d (.int .u64 x.1.2.1)), (6, .d (.int .i64 x.1.2.2.1))]) (fun x => [(0, .box 74 [.d (.str x.1.2.2.2.1), .d (.int .i64 x.1.2.2.2.2.1), .d (.int .i64 x.1.2.2.2.2.2)])]) (fun x => x.1.1) ⟨(fuel, (0, 0, a0.s, a0.at_, a0.err)), H⟩ (Less.mk' ⟨rfl, rfl, rfl, trivial⟩ ⟨rfl, trivial⟩) fun x => ?_
  obtain ⟨⟨k2, s1⟩, H⟩ := x
  rcases k2 with _ | k2
  · exact of_none H
  rw [octet_In_Num_l2] at H
  refine WC.seq ?_
  refine WC.region ?_
  refine WL.run 1 tt_ok sg0 rfl rfl trivial ?_
  refine WL.nil ?_
  refine QT.n ?_
  refine WC.seq ?_
  refine WC.cond rfl (fun h3 => ?_) (fun h3 => ?_)
  · replace H := of_t H h3
    refine WC.skip ?_
    refine QT.n ?_
    refine WC.seq ?_
    refine WC.block ?_
    refine WC.seq ?_
    refine WC.region ?_
    refine WL.run 2 tt_ok sg0 rfl rfl trivial ?_
    refine WL.nil ?_
    refine QT.n ?_
    refine WC.seq ?_
    refine WC.region ?_
    refine WL.run 1 tt_ok sg0 rfl rfl trivial ?_
    obtain ⟨x4, hx4, H⟩ := of_bind H
    refine WL.call [] (octet_In_Byte_s 0 rfl _ hx4) octet_In_Byte_f rfl rfl ⟨rfl, trivial⟩ rfl rfl rfl ?_
    refine WL.run 1 tt_ok sg0 rfl rfl trivial ?_
    refine WL.nil ?_
    refine QT.n ?_
    refine WC.seq ?_
    refine WC.seq ?_
    refine WC.region ?_
    refine WL.run 3 tt_ok sg0 rfl rfl trivial ?_
    refine WL.grun 5 2 false 13 tt_ok sg0 rfl rfl rfl rfl trivial ?_
    refine WL.pickF rfl rfl rfl rfl rfl rfl ?_
    refine WL.nil ?_
    refine QT.n ?_
    refine WC.cond rfl (fun h5 => ?_) (fun h5 => ?_)
    · replace H := of_t H h5
      refine WC.seq ?_
      refine WC.region ?_
      refine WL.run 1 tt_ok sg0 rfl rfl trivial ?_
      refine WL.nil ?_
      refine QT.n ?_
      refine WC.ret ?_
      refine QT.r (QB.r (QT.r (QT.r (QB.r (QT.r ?_)))))
      cases H
      exact Ends.auto rfl rfl rfl ⟨rfl, trivial⟩
    replace H := of_f H h5
    refine WC.skip ?_
    refine QT.n ?_
    refine WC.seq ?_
    refine WC.seq ?_
    refine WC.region ?_
    refine WL.run 3 tt_ok sg0 rfl rfl trivial ?_
    refine WL.sect 2 2 true tt_ok sg0 rfl rfl (fun _ => trivial) ?_
    refine WL.run 2 tt_ok sg0 rfl rfl ⟨by first | exact id | exact fun h => by rw [h]; rfl | simp_all, trivial⟩ ?_
    refine WL.sect 3 6 false tt_ok sg0 rfl rfl (fun _ => trivial) ?_
    refine WL.sect 2 9 true tt_ok sg0 rfl rfl (fun _ => trivial) ?_
    refine WL.sect 1 6 false tt_ok sg0 rfl rfl (fun hb => ⟨by first | exact id | exact ⟨hb, fun h => by rw [hb, h]; rfl⟩ | exact ⟨hb, id⟩ | exact fun h => by rw [hb, h]; rfl | exact fun h => by rw [h]; rfl | simp_all, trivial⟩) ?_
    refine WL.run 1 tt_ok sg0 rfl rfl ⟨by first | exact id | exact fun h => by rw [h]; rfl | simp_all, trivial⟩ ?_
    refine WL.nil ?_
    refine QT.n ?_
    refine WC.cond rfl (fun h6 => ?_) (fun h6 => ?_)
    · replace H := of_t H h6
      refine WC.seq ?_
      refine WC.region ?_
      refine WL.run 1 tt_ok sg0 rfl rfl trivial ?_
      obtain ⟨x7, hx7, H⟩ := of_bind H
      refine WL.call [] (octet_In_fail_s 0 rfl _ _ hx7) octet_In_fail_f rfl rfl ⟨rfl, trivial⟩ rfl rfl rfl ?_
      refine WL.nil ?_
      refine QT.n ?_
      refine WC.seq ?_
      refine WC.region ?_
      refine WL.run 1 tt_ok sg0 rfl rfl trivial ?_
      refine WL.nil ?_
      refine QT.n ?_
      refine WC.ret ?_
      refine QT.r (QB.r (QT.r (QT.r (QB.r (QT.r ?_)))))
      cases H
      exact Ends.auto rfl rfl rfl ⟨rfl, trivial⟩
    replace H := of_f H h6
    refine WC.skip ?_
    refine QT.n ?_
    refine WC.seq ?_
    refine WC.region ?_
    obtain ⟨g8, H⟩ := of_need H
    refine WL.run 9 tt_ok sg0 rfl rfl ⟨(nNn_ok g8), trivial⟩ ?_
    refine WL.nil ?_
    refine QT.n ?_
    refine WC.seq ?_
    refine WC.region ?_
    refine WL.run 2 tt_ok sg0 rfl rfl trivial ?_
    refine WL.nil ?_
    refine QT.n ?_
    refine WC.cond rfl (fun h9 => ?_) (fun h9 => ?_)
    · replace H := of_t H h9
      refine WC.seq ?_
      refine WC.region ?_
      refine WL.run 2 tt_ok sg0 rfl rfl trivial ?_
      refine WL.nil ?_
      refine QT.n ?_
      refine WC.ret ?_
      refine QB.r (QT.r (QT.r (QB.r (QT.r ?_))))
      cases H
      exact Ends.auto rfl rfl rfl ⟨rfl, trivial⟩
    replace H := of_f H h9
    refine WC.skip ?_
    refine QB.n (QT.n ?_)
    refine WC.region ?_
    refine WL.run 2 tt_ok sg0 rfl rfl trivial ?_
    refine WL.nil ?_
    refine QT.n ?_
    exact ⟨⟨(k2, (Go.bits .or .u64 s1.1 (IntKind.u64.wrap ((IntKind.u64.wrap (Go.bits .and .i64 x4.1 127)) * 2 ^ min (IntKind.i64.wrap ((7 : Int) * s1.2.1) : Int).toNat IntKind.u64.bits)), IntKind.i64.wrap (s1.2.1 + 1), x4.2.s, x4.2.at_, x4.2.err)), H⟩, Nat.lt_succ_self _, Less.mk' ⟨rfl, rfl, rfl, trivial⟩ ⟨rfl, trivial⟩⟩
  replace H := of_f H h3
  refine WC.exit ?_
  refine QT.x (QT.x (QB.hit (QT.n ?_)))
  refine WC.seq ?_
  refine WC.region ?_
  refine WL.run 2 tt_ok sg0 rfl rfl trivial ?_
  refine WL.nil ?_
  refine QT.n ?_
  refine WC.ret ?_
  cases H
  exact Ends.auto rfl rfl rfl ⟨rfl, trivial⟩
theorem octet_In_Num_s (n0 : Nat) (hn : nodupB [n0] = true) (a0 : T_octet_In) {r : Int × T_octet_In} (H : octet_In_Num a0 = some r) : LJ.Spec Try.prog 29 [.ptr n0 0] [(n0, .box 74 [.d (.str a0.s), .d (.int .i64 a0.at_), .d (.int .i64 a0.err)])] (.d (.int .u64 r.1)) [(n0, .box 74 [.d (.str r.2.s), .d (.int .i64 r.2.at_), .d (.int .i64 r.2.err)])] :=
  Spec.names [n0] hn rfl rfl (octet_In_Num_0 a0 H)
theorem octet_In_Num_f : hasFunc Try.prog 29 Try.f29 := ⟨Try.func29, rfl, by kernel_rfl⟩

/-! ### (*logjam/octet.In).Err -/
theorem octet_In_Err_0 (a0 : T_octet_In) {r : Int} (H : octet_In_Err a0 = some r) : LJ.Spec Try.prog 30 [.ptr 0 0] [(0, .box 74 [.d (.str a0.s), .d (.int .i64 a0.at_), .d (.int .i64 a0.err)])] (.d (.int .i64 r)) [(0, .box 74 [.d (.str a0.s), .d (.int .i64 a0.at_), .d (.int .i64 a0.err)])] := by
  refine LJ.Spec.code Try.func30 rfl 9 rfl rfl [0] rfl fun w0 F0 S0 B0 => ?_
  unfold octet_In_Err at H
  refine WC.seq ?_
  refine WC.region ?_
  refine WL.run 1 tt_ok sg0 rfl rfl trivial ?_
  refine WL.nil ?_
  refine QT.n ?_
  refine WC.seq ?_
  refine WC.seq ?_
  refine WC.region ?_
  refine WL.run 2 tt_ok sg0 rfl rfl trivial ?_
  refine WL.nil ?_
  refine QT.n ?_
  refine WC.cond rfl (fun h => absurd h (by decide)) (fun h => ?_)
  refine WC.skip ?_
  refine QT.n ?_
  refine WC.seq ?_
  refine WC.region ?_
  refine WL.run 5 tt_ok sg0 rfl rfl trivial ?_
  refine WL.nil ?_
  refine QT.n ?_
  refine WC.ret ?_
  cases H
  exact Ends.auto rfl rfl rfl ⟨rfl, trivial⟩
theorem octet_In_Err_s (n0 : Nat) (hn : nodupB [n0] = true) (a0 : T_octet_In) {r : Int} (H : octet_In_Err a0 = some r) : LJ.Spec Try.prog 30 [.ptr n0 0] [(n0, .box 74 [.d (.str a0.s), .d (.int .i64 a0.at_), .d (.int .i64 a0.err)])] (.d (.int .i64 r)) [(n0, .box 74 [.d (.str a0.s), .d (.int .i64 a0.at_), .d (.int .i64 a0.err)])] :=
  Spec.names [n0] hn rfl rfl (octet_In_Err_0 a0 H)
theorem octet_In_Err_f : hasFunc Try.prog 30 Try.f30 := ⟨Try.func30, rfl, by kernel_rfl⟩

/-! ### logjam/decl.Name -/
theorem decl_Name_0 (a0 : Int) {r : ByteArray} (H : decl_Name a0 = some r) : LJ.Spec Try.prog 19 [.d (.int .i64 a0)] [] (.d (.str r)) [] := by
  refine LJ.Spec.code Try.func19 rfl 18 rfl rfl [] rfl fun w0 F0 S0 B0 => ?_
  unfold decl_Name at H
  refine WC.seq ?_
  refine WC.region ?_
  refine WL.run 1 tt_ok sg0 rfl rfl trivial ?_
  refine WL.nil ?_
  refine QT.n ?_
  refine WC.seq ?_
  refine WC.seq ?_
  refine WC.region ?_
  refine WL.run 1 tt_ok sg0 rfl rfl trivial ?_
  refine WL.nil ?_
  refine QT.n ?_
  refine WC.block ?_
  refine WC.seq ?_
  refine WC.region ?_
  refine WL.run 2 tt_ok sg0 rfl rfl trivial ?_
  refine WL.nil ?_
  refine QT.n ?_
  refine WC.cond rfl (fun h1 => ?_) (fun h1 => ?_)
  · replace H := of_t H h1
    refine WC.seq ?_
    refine WC.region ?_
    refine WL.run 1 tt_ok sg0 rfl rfl trivial ?_
    refine WL.nil ?_
    refine QT.n ?_
    refine WC.ret ?_
    refine QB.r (QT.r ?_)
    cases H
    exact Ends.auto rfl rfl rfl trivial
  replace H := of_f H h1
  refine WC.seq ?_
  refine WC.region ?_
  refine WL.run 2 tt_ok sg0 rfl rfl trivial ?_
  refine WL.nil ?_
  refine QT.n ?_
  refine WC.cond rfl (fun h2 => ?_) (fun h2 => ?_)
  · replace H := of_t H h2
    refine WC.seq ?_
    refine WC.region ?_
    refine WL.run 1 tt_ok sg0 rfl rfl trivial ?_
    refine WL.nil ?_
    refine QT.n ?_
    refine WC.ret ?_
    refine QB.r (QT.r ?_)
    cases H
    exact Ends.auto rfl rfl rfl trivial
  replace H := of_f H h2
  refine WC.seq ?_
  refine WC.region ?_
  refine WL.run 2 tt_ok sg0 rfl rfl trivial ?_
  refine WL.nil ?_
  refine QT.n ?_
  refine WC.cond rfl (fun h3 => ?_) (fun h3 => ?_)
  · replace H := of_t H h3
    refine WC.seq ?_
    refine WC.region ?_
    refine WL.run 1 tt_ok sg0 rfl rfl trivial ?_
    refine WL.nil ?_
    refine QT.n ?_
    refine WC.ret ?_
    refine QB.r (QT.r ?_)
    cases H
    exact Ends.auto rfl rfl rfl trivial
  replace H := of_f H h3
  refine WC.seq ?_
  refine WC.region ?_
  refine WL.run 2 tt_ok sg0 rfl rfl trivial ?_
  refine WL.nil ?_
  refine QT.n ?_
  refine WC.cond rfl (fun h4 => ?_) (fun h4 => ?_)
  · replace H := of_t H h4
    refine WC.seq ?_
    refine WC.region ?_
    refine WL.run 1 tt_ok sg0 rfl rfl trivial ?_
    refine WL.nil ?_
    refine QT.n ?_
    refine WC.ret ?_
    refine QB.r (QT.r ?_)
    cases H
    exact Ends.auto rfl rfl rfl trivial
  replace H := of_f H h4
  refine WC.seq ?_
  refine WC.region ?_
  refine WL.run 2 tt_ok sg0 rfl rfl trivial ?_
  refine WL.nil ?_
  refine QT.n ?_
  refine WC.cond rfl (fun h5 => ?_) (fun h5 => ?_)
  · replace H := of_t H h5
    refine WC.seq ?_
    refine WC.region ?_
    refine WL.run 1 tt_ok sg0 rfl rfl trivial ?_
    refine WL.nil ?_
    refine QT.n ?_
    refine WC.ret ?_
    refine QB.r (QT.r ?_)
    cases H
    exact Ends.auto rfl rfl rfl trivial
  replace H := of_f H h5
  refine WC.seq ?_
  refine WC.region ?_
  refine WL.run 2 tt_ok sg0 rfl rfl trivial ?_
  refine WL.nil ?_
  refine QT.n ?_
  refine WC.cond rfl (fun h6 => ?_) (fun h6 => ?_)
  · replace H := of_t H h6
    refine WC.seq ?_
    refine WC.region ?_
    refine WL.run 1 tt_ok sg0 rfl rfl trivial ?_
    refine WL.nil ?_
    refine QT.n ?_
    refine WC.ret ?_
    refine QB.r (QT.r ?_)
    cases H
    exact Ends.auto rfl rfl rfl trivial
  replace H := of_f H h6
  refine WC.seq ?_
  refine WC.region ?_
  refine WL.run 2 tt_ok sg0 rfl rfl trivial ?_
  refine WL.nil ?_
  refine QT.n ?_
  refine WC.cond rfl (fun h7 => ?_) (fun h7 => ?_)
  · replace H := of_t H h7
    refine WC.seq ?_
    refine WC.region ?_
    refine WL.run 1 tt_ok sg0 rfl rfl trivial ?_
    refine WL.nil ?_
    refine QT.n ?_
    refine WC.ret ?_
    refine QB.r (QT.r ?_)
    cases H
    exact Ends.auto rfl rfl rfl trivial
  replace H := of_f H h7
  refine WC.skip ?_
  refine QB.n (QT.n ?_)
  refine WC.seq ?_
  refine WC.region ?_
  refine WL.run 1 tt_ok sg0 rfl rfl trivial ?_
  refine WL.nil ?_
  refine QT.n ?_
  refine WC.ret ?_
  cases H
  exact Ends.auto rfl rfl rfl trivial
theorem decl_Name_f : hasFunc Try.prog 19 Try.f19 := ⟨Try.func19, rfl, by kernel_rfl⟩

/-! ### logjam/decl.num -/
theorem decl_num_0 (a0 : T_octet_In) {r : Int × T_octet_In} (H : decl_num a0 = some r) : LJ.Spec Try.prog 40 [.ptr 0 0] [(0, .box 74 [.d (.str a0.s), .d (.int .i64 a0.at_), .d (.int .i64 a0.err)])] (.d (.int .i64 r.1)) [(0, .box 74 [.d (.str r.2.s), .d (.int .i64 r.2.at_), .d (.int .i64 r.2.err)])] := by
  refine LJ.Spec.code Try.func40 rfl 7 rfl rfl [0] rfl fun w0 F0 S0 B0 => ?_
  unfold decl_num at H
  refine WC.seq ?_
  refine WC.region ?_
  refine WL.run 1 tt_ok sg0 rfl rfl trivial ?_
  refine WL.nil ?_
  refine QT.n ?_
  refine WC.seq ?_
  refine WC.region ?_
  refine WL.run 1 tt_ok sg0 rfl rfl trivial ?_
  obtain ⟨x1, hx1, H⟩ := of_bind H
  refine WL.call [] (octet_In_Num_s 0 rfl _ hx1) octet_In_Num_f rfl rfl ⟨rfl, trivial⟩ rfl rfl rfl ?_
  refine WL.yv (LJ.Y.min rfl rfl rfl) rfl rfl rfl ?_
  refine WL.run 2 tt_ok sg0 rfl rfl trivial ?_
  refine WL.nil ?_
  refine QT.n ?_
  refine WC.ret ?_
  cases H
  exact Ends.auto rfl rfl rfl ⟨rfl, trivial⟩
theorem decl_num_s (n0 : Nat) (hn : nodupB [n0] = true) (a0 : T_octet_In) {r : Int × T_octet_In} (H : decl_num a0 = some r) : LJ.Spec Try.prog 40 [.ptr n0 0] [(n0, .box 74 [.d (.str a0.s), .d (.int .i64 a0.at_), .d (.int .i64 a0.err)])] (.d (.int .i64 r.1)) [(n0, .box 74 [.d (.str r.2.s), .d (.int .i64 r.2.at_), .d (.int .i64 r.2.err)])] :=
  Spec.names [n0] hn rfl rfl (decl_num_0 a0 H)
theorem decl_num_f : hasFunc Try.prog 40 Try.f40 := ⟨Try.func40, rfl, by kernel_rfl⟩

/-! ### (*logjam/octet.In).Int -/
theorem octet_In_Int_0 (a0 : T_octet_In) {r : Int × T_octet_In} (H : octet_In_Int a0 = some r) : LJ.Spec Try.prog 41 [.ptr 0 0] [(0, .box 74 [.d (.str a0.s), .d (.int .i64 a0.at_), .d (.int .i64 a0.err)])] (.d (.int .i64 r.1)) [(0, .box 74 [.d (.str r.2.s), .d (.int .i64 r.2.at_), .d (.int .i64 r.2.err)])] := by
  refine LJ.Spec.code Try.func41 rfl 14 rfl rfl [0] rfl fun w0 F0 S0 B0 => ?_
  unfold octet_In_Int at H
  refine WC.seq ?_
  refine WC.region ?_
  refine WL.run 1 tt_ok sg0 rfl rfl trivial ?_
  refine WL.nil ?_
  refine QT.n ?_
  refine WC.seq ?_
  refine WC.region ?_
  refine WL.run 1 tt_ok sg0 rfl rfl trivial ?_
  obtain ⟨x1, hx1, H⟩ := of_bind H
  refine WL.call [] (octet_In_Num_s 0 rfl _ hx1) octet_In_Num_f rfl rfl ⟨rfl, trivial⟩ rfl rfl rfl ?_
  refine WL.run 1 tt_ok sg0 rfl rfl trivial ?_
  refine WL.nil ?_
  refine QT.n ?_
  refine WC.seq ?_
  refine WC.region ?_
  refine WL.run 9 tt_ok sg0 rfl rfl trivial ?_
  refine WL.nil ?_
  refine QT.n ?_
  refine WC.ret ?_
  cases H
  exact Ends.auto rfl rfl rfl ⟨rfl, trivial⟩
theorem octet_In_Int_s (n0 : Nat) (hn : nodupB [n0] = true) (a0 : T_octet_In) {r : Int × T_octet_In} (H : octet_In_Int a0 = some r) : LJ.Spec Try.prog 41 [.ptr n0 0] [(n0, .box 74 [.d (.str a0.s), .d (.int .i64 a0.at_), .d (.int .i64 a0.err)])] (.d (.int .i64 r.1)) [(n0, .box 74 [.d (.str r.2.s), .d (.int .i64 r.2.at_), .d (.int .i64 r.2.err)])] :=
  Spec.names [n0] hn rfl rfl (octet_In_Int_0 a0 H)
theorem octet_In_Int_f : hasFunc Try.prog 41 Try.f41 := ⟨Try.func41, rfl, by kernel_rfl⟩

/-! ### logjam/decl.read -/
theorem decl_read_0 (a0 : T_octet_In) {r : T_api_Decl × Int × T_octet_In} (H : decl_read a0 = some r) : LJ.Spec Try.prog 31 [.ptr 0 0] [(0, .box 74 [.d (.str a0.s), .d (.int .i64 a0.at_), .d (.int .i64 a0.err)])] (.tup [.d (.agg [.int .i64 r.1.Kind, .int .i64 r.1.A, .int .i64 r.1.B]), .d (.int .i64 r.2.1)]) [(0, .box 74 [.d (.str r.2.2.s), .d (.int .i64 r.2.2.at_), .d (.int .i64 r.2.2.err)])] := by
  refine LJ.Spec.code Try.func31 rfl 44 rfl rfl [0] rfl fun w0 F0 S0 B0 => ?_
  unfold decl_read at H
  refine WC.seq ?_
  refine WC.region ?_
  refine WL.alloc 102 tt_ok rfl rfl rfl ?_
  refine WL.run 1 tt_ok sg0 rfl rfl trivial ?_
  refine WL.nil ?_
  refine QT.n ?_
  refine WC.seq ?_
  refine WC.region ?_
  refine WL.run 1 tt_ok sg0 rfl rfl trivial ?_
  obtain ⟨x1, hx1, H⟩ := of_bind H
  refine WL.call [] (octet_In_Byte_s 0 rfl _ hx1) octet_In_Byte_f rfl rfl ⟨rfl, trivial⟩ rfl rfl rfl ?_
  refine WL.run 1 tt_ok sg0 rfl rfl trivial ?_
  refine WL.alloc 104 tt_ok rfl rfl rfl ?_
  refine WL.eff 0 tt_ok et_ok eg0 rfl rfl rfl trivial ?_
  refine WL.nil ?_
  refine QT.n ?_
  refine WC.seq ?_
  refine WC.seq ?_
  refine WC.region ?_
  refine WL.run 1 tt_ok sg0 rfl rfl trivial ?_
  obtain ⟨x2, hx2, H⟩ := of_bind H
  refine WL.call [] (octet_In_Err_s 0 rfl _ hx2) octet_In_Err_f rfl rfl ⟨rfl, trivial⟩ rfl rfl rfl ?_
  refine WL.run 2 tt_ok sg0 rfl rfl trivial ?_
  obtain ⟨x3, hx3, H⟩ := of_bind H
  refine WL.sect 4 3 true tt_ok [PSig.at' decl_Name_f ((iEq x2 0) = true) rfl (fun hb => decl_Name_0 _ (of_t hx3 hb))] rfl rfl (fun hb => ⟨⟨hb, rfl⟩, trivial⟩) ?_
  refine WL.run 1 tt_ok sg0 rfl rfl ⟨by first | exact id | exact fun h => by rw [h]; rfl | simp_all, trivial⟩ ?_
  refine WL.nil ?_
  refine QT.n ?_
  refine WC.cond rfl (fun h4 => ?_) (fun h4 => ?_)
  · replace H := of_t H h4
    refine WC.seq ?_
    refine WC.region ?_
    refine WL.run 1 tt_ok sg0 rfl rfl trivial ?_
    refine WL.eff 0 tt_ok et_ok eg0 rfl rfl rfl trivial ?_
    refine WL.run 1 tt_ok sg0 rfl rfl trivial ?_
    refine WL.nil ?_
    refine QT.n ?_
    refine WC.ret ?_
    refine QT.r ?_
    cases H
    exact Ends.autoC tt_ok rfl rfl rfl ⟨rfl, trivial⟩
  replace H := of_f H h4
  refine WC.skip ?_
  refine QT.n ?_
  refine WC.seq ?_
  refine WC.seq ?_
  refine WC.region ?_
  refine WL.run 2 tt_ok sg0 rfl rfl trivial ?_
  refine WL.nil ?_
  refine QT.n ?_
  refine WC.block ?_
  refine WC.seq ?_
  refine WC.region ?_
  refine WL.run 2 tt_ok sg0 rfl rfl trivial ?_
  refine WL.nil ?_
  refine QT.n ?_
  refine WC.cond rfl (fun h5 => ?_) (fun h5 => ?_)
  · replace H := of_t H h5
    refine WC.seq ?_
    refine WC.region ?_
    refine WL.run 1 tt_ok sg0 rfl rfl trivial ?_
    obtain ⟨x6, hx6, H⟩ := of_bind H
    refine WL.call [] (decl_num_s 0 rfl _ hx6) decl_num_f rfl rfl ⟨rfl, trivial⟩ rfl rfl rfl ?_
    refine WL.run 1 tt_ok sg0 rfl rfl trivial ?_
    refine WL.eff 0 tt_ok et_ok eg0 rfl rfl rfl trivial ?_
    refine WL.nil ?_
    refine QT.n ?_
    refine WC.region ?_
    refine WL.run 1 tt_ok sg0 rfl rfl trivial ?_
    obtain ⟨x7, hx7, H⟩ := of_bind H
    refine WL.call [] (decl_num_s 0 rfl _ hx7) decl_num_f rfl rfl ⟨rfl, trivial⟩ rfl rfl rfl ?_
    refine WL.run 1 tt_ok sg0 rfl rfl trivial ?_
    refine WL.eff 0 tt_ok et_ok eg0 rfl rfl rfl trivial ?_
    refine WL.nil ?_
    refine QB.n (QT.n ?_)
    refine WC.seq ?_
    refine WC.heldP (.one 0 true (.one 1 true (.one 2 false (.one 3 false (.one 4 true .done))))) [0, 102, 104] [104] rfl (by kernel_rfl) rfl (by kernel_rfl) rfl rfl (fun _ h => h) rfl rfl rfl (fun _ _ _ h => h) fun FK NK wK K => ?_
    refine WH.run 2 tt_ok rfl rfl rfl rfl trivial ?_
    obtain ⟨x8, hx8, H⟩ := of_bind H
    refine WH.call [] rfl (octet_In_Err_s 0 rfl _ hx8) octet_In_Err_f rfl rfl ⟨rfl, trivial⟩ rfl rfl rfl rfl rfl ?_
    refine WH.eff 0 tt_ok et_ok rfl rfl rfl rfl trivial rfl rfl ?_
    refine WH.run 1 tt_ok rfl rfl rfl rfl trivial ?_
    refine WH.nil rfl ?_
    refine QT.n ?_
    refine WC.ret ?_
    cases H
    exact Ends.autoC tt_ok rfl rfl rfl ⟨rfl, trivial⟩
  replace H := of_f H h5
  refine WC.seq ?_
  refine WC.region ?_
  refine WL.run 2 tt_ok sg0 rfl rfl trivial ?_
  refine WL.nil ?_
  refine QT.n ?_
  refine WC.cond rfl (fun h9 => ?_) (fun h9 => ?_)
  · replace H := of_t H h9
    refine WC.region ?_
    refine WL.run 1 tt_ok sg0 rfl rfl trivial ?_
    obtain ⟨x10, hx10, H⟩ := of_bind H
    refine WL.call [] (decl_num_s 0 rfl _ hx10) decl_num_f rfl rfl ⟨rfl, trivial⟩ rfl rfl rfl ?_
    refine WL.run 1 tt_ok sg0 rfl rfl trivial ?_
    refine WL.eff 0 tt_ok et_ok eg0 rfl rfl rfl trivial ?_
    refine WL.nil ?_
    refine QB.n (QT.n ?_)
    refine WC.seq ?_
    refine WC.heldP (.one 0 true (.one 1 true (.one 2 false (.one 3 false (.one 4 true .done))))) [0, 102, 104] [104] rfl (by kernel_rfl) rfl (by kernel_rfl) rfl rfl (fun _ h => h) rfl rfl rfl (fun _ _ _ h => h) fun FK NK wK K => ?_
    refine WH.run 2 tt_ok rfl rfl rfl rfl trivial ?_
    obtain ⟨x11, hx11, H⟩ := of_bind H
    refine WH.call [] rfl (octet_In_Err_s 0 rfl _ hx11) octet_In_Err_f rfl rfl ⟨rfl, trivial⟩ rfl rfl rfl rfl rfl ?_
    refine WH.eff 0 tt_ok et_ok rfl rfl rfl rfl trivial rfl rfl ?_
    refine WH.run 1 tt_ok rfl rfl rfl rfl trivial ?_
    refine WH.nil rfl ?_
    refine QT.n ?_
    refine WC.ret ?_
    cases H
    exact Ends.autoC tt_ok rfl rfl rfl ⟨rfl, trivial⟩
  replace H := of_f H h9
  refine WC.seq ?_
  refine WC.region ?_
  refine WL.run 2 tt_ok sg0 rfl rfl trivial ?_
  refine WL.nil ?_
  refine QT.n ?_
  refine WC.cond rfl (fun h12 => ?_) (fun h12 => ?_)
  · replace H := of_t H h12
    refine WC.seq ?_
    refine WC.region ?_
    refine WL.run 1 tt_ok sg0 rfl rfl trivial ?_
    obtain ⟨x13, hx13, H⟩ := of_bind H
    refine WL.call [] (octet_In_Int_s 0 rfl _ hx13) octet_In_Int_f rfl rfl ⟨rfl, trivial⟩ rfl rfl rfl ?_
    refine WL.run 1 tt_ok sg0 rfl rfl trivial ?_
    refine WL.eff 0 tt_ok et_ok eg0 rfl rfl rfl trivial ?_
    refine WL.nil ?_
    refine QT.n ?_
    refine WC.region ?_
    refine WL.run 1 tt_ok sg0 rfl rfl trivial ?_
    obtain ⟨x14, hx14, H⟩ := of_bind H
    refine WL.call [] (decl_num_s 0 rfl _ hx14) decl_num_f rfl rfl ⟨rfl, trivial⟩ rfl rfl rfl ?_
    refine WL.run 1 tt_ok sg0 rfl rfl trivial ?_
    refine WL.eff 0 tt_ok et_ok eg0 rfl rfl rfl trivial ?_
    refine WL.nil ?_
    refine QB.n (QT.n ?_)
    refine WC.seq ?_
    refine WC.heldP (.one 0 true (.one 1 true (.one 2 false (.one 3 false (.one 4 true .done))))) [0, 102, 104] [104] rfl (by kernel_rfl) rfl (by kernel_rfl) rfl rfl (fun _ h => h) rfl rfl rfl (fun _ _ _ h => h) fun FK NK wK K => ?_
    refine WH.run 2 tt_ok rfl rfl rfl rfl trivial ?_
    obtain ⟨x15, hx15, H⟩ := of_bind H
    refine WH.call [] rfl (octet_In_Err_s 0 rfl _ hx15) octet_In_Err_f rfl rfl ⟨rfl, trivial⟩ rfl rfl rfl rfl rfl ?_
    refine WH.eff 0 tt_ok et_ok rfl rfl rfl rfl trivial rfl rfl ?_
    refine WH.run 1 tt_ok rfl rfl rfl rfl trivial ?_
    refine WH.nil rfl ?_
    refine QT.n ?_
    refine WC.ret ?_
    cases H
    exact Ends.autoC tt_ok rfl rfl rfl ⟨rfl, trivial⟩
  replace H := of_f H h12
  refine WC.skip ?_
  refine QB.n (QT.n ?_)
  refine WC.seq ?_
  refine WC.heldP (.one 0 true (.one 1 true (.one 2 false (.one 3 false (.one 4 true .done))))) [0, 102, 104] [104] rfl (by kernel_rfl) rfl (by kernel_rfl) rfl rfl (fun _ h => h) rfl rfl rfl (fun _ _ _ h => h) fun FK NK wK K => ?_
  refine WH.run 2 tt_ok rfl rfl rfl rfl trivial ?_
  obtain ⟨x16, hx16, H⟩ := of_bind H
  refine WH.call [] rfl (octet_In_Err_s 0 rfl _ hx16) octet_In_Err_f rfl rfl ⟨rfl, trivial⟩ rfl rfl rfl rfl rfl ?_
  refine WH.eff 0 tt_ok et_ok rfl rfl rfl rfl trivial rfl rfl ?_
  refine WH.run 1 tt_ok rfl rfl rfl rfl trivial ?_
  refine WH.nil rfl ?_
  refine QT.n ?_
  refine WC.ret ?_
  cases H
  exact Ends.autoC tt_ok rfl rfl rfl ⟨rfl, trivial⟩
theorem decl_read_s (n0 : Nat) (hn : nodupB [n0] = true) (a0 : T_octet_In) {r : T_api_Decl × Int × T_octet_In} (H : decl_read a0 = some r) : LJ.Spec Try.prog 31 [.ptr n0 0] [(n0, .box 74 [.d (.str a0.s), .d (.int .i64 a0.at_), .d (.int .i64 a0.err)])] (.tup [.d (.agg [.int .i64 r.1.Kind, .int .i64 r.1.A, .int .i64 r.1.B]), .d (.int .i64 r.2.1)]) [(n0, .box 74 [.d (.str r.2.2.s), .d (.int .i64 r.2.2.at_), .d (.int .i64 r.2.2.err)])] :=
  Spec.names [n0] hn rfl rfl (decl_read_0 a0 H)
theorem decl_read_f : hasFunc Try.prog 31 Try.f31 := ⟨Try.func31, rfl, by kernel_rfl⟩

/-! ### (*logjam/octet.In).Left -/
theorem octet_In_Left_0 (a0 : T_octet_In) {r : Int} (H : octet_In_Left a0 = some r) : LJ.Spec Try.prog 32 [.ptr 0 0] [(0, .box 74 [.d (.str a0.s), .d (.int .i64 a0.at_), .d (.int .i64 a0.err)])] (.d (.int .i64 r)) [(0, .box 74 [.d (.str a0.s), .d (.int .i64 a0.at_), .d (.int .i64 a0.err)])] := by
  refine LJ.Spec.code Try.func32 rfl 15 rfl rfl [0] rfl fun w0 F0 S0 B0 => ?_
  unfold octet_In_Left at H
  refine WC.seq ?_
  refine WC.region ?_
  refine WL.run 1 tt_ok sg0 rfl rfl trivial ?_
  refine WL.nil ?_
  refine QT.n ?_
  refine WC.seq ?_
  refine WC.seq ?_
  refine WC.region ?_
  refine WL.run 2 tt_ok sg0 rfl rfl trivial ?_
  refine WL.nil ?_
  refine QT.n ?_
  refine WC.cond rfl (fun h => absurd h (by decide)) (fun h => ?_)
  refine WC.skip ?_
  refine QT.n ?_
  refine WC.seq ?_
  refine WC.heldP (.one 0 true (.one 1 true (.one 2 true (.one 3 true (.one 4 true (.one 5 true (.one 6 true (.one 7 true (.one 8 true (.one 9 true (.one 10 true .done))))))))))) [0] [0] rfl (by kernel_rfl) rfl (by kernel_rfl) rfl rfl (fun _ h => h) rfl rfl rfl (fun _ _ _ h => h) fun FK NK wK K => ?_
  refine WH.run 11 tt_ok rfl rfl rfl rfl trivial ?_
  refine WH.nil rfl ?_
  refine QT.n ?_
  refine WC.ret ?_
  cases H
  exact Ends.auto rfl rfl rfl ⟨rfl, trivial⟩
theorem octet_In_Left_s (n0 : Nat) (hn : nodupB [n0] = true) (a0 : T_octet_In) {r : Int} (H : octet_In_Left a0 = some r) : LJ.Spec Try.prog 32 [.ptr n0 0] [(n0, .box 74 [.d (.str a0.s), .d (.int .i64 a0.at_), .d (.int .i64 a0.err)])] (.d (.int .i64 r)) [(n0, .box 74 [.d (.str a0.s), .d (.int .i64 a0.at_), .d (.int .i64 a0.err)])] :=
  Spec.names [n0] hn rfl rfl (octet_In_Left_0 a0 H)
theorem octet_In_Left_f : hasFunc Try.prog 32 Try.f32 := ⟨Try.func32, rfl, by kernel_rfl⟩

/-! ### logjam/decl.Get -/
theorem decl_Get_0 (a0 : ByteArray) {r : (List T_api_Decl) × Int × Int} (H : decl_Get a0 = some r) : LJ.Spec Try.prog 13 [.d (.str a0)] [] (.tup [.d (slT enc_api_Decl r.1), .d (.int .i64 r.2.1), .d (.int .i64 r.2.2)]) [] := by
  refine LJ.Spec.code Try.func13 rfl 54 rfl rfl [] rfl fun w0 F0 S0 B0 => ?_
  unfold decl_Get at H
  refine WC.seq ?_
  refine WC.region ?_
  refine WL.run 3 tt_ok sg0 rfl rfl trivial ?_
  refine WL.nil ?_
  refine QT.n ?_
  refine WC.seq ?_
  refine WC.region ?_
  refine WL.run 1 tt_ok sg0 rfl rfl trivial ?_
  obtain ⟨x1, hx1, H⟩ := of_bind H
  refine WL.call [2140] (octet_Open_s 2140 rfl _ hx1) octet_Open_f rfl rfl trivial rfl rfl rfl ?_
  refine WL.run 1 tt_ok sg0 rfl rfl trivial ?_
  refine WL.nil ?_
  refine QT.n ?_
  refine WC.seq ?_
  refine WC.region ?_
  refine WL.run 1 tt_ok sg0 rfl rfl trivial ?_
  obtain ⟨x2, hx2, H⟩ := of_bind H
  refine WL.call [] (octet_In_Num_s 2140 rfl _ hx2) octet_In_Num_f rfl rfl ⟨rfl, trivial⟩ rfl rfl rfl ?_
  refine WL.run 1 tt_ok sg0 rfl rfl trivial ?_
  refine WL.nil ?_
  refine QT.n ?_
  refine WC.seq ?_
  refine WC.seq ?_
  refine WC.region ?_
  refine WL.run 1 tt_ok sg0 rfl rfl trivial ?_
  obtain ⟨x3, hx3, H⟩ := of_bind H
  refine WL.call [] (octet_In_Err_s 2140 rfl _ hx3) octet_In_Err_f rfl rfl ⟨rfl, trivial⟩ rfl rfl rfl ?_
  refine WL.run 1 tt_ok sg0 rfl rfl trivial ?_
  refine WL.nil ?_
  refine QT.n ?_
  refine WC.seq ?_
  refine WC.region ?_
  refine WL.run 2 tt_ok sg0 rfl rfl trivial ?_
  refine WL.nil ?_
  refine QT.n ?_
  refine WC.cond rfl (fun h4 => ?_) (fun h4 => ?_)
  · replace H := of_t H h4
    refine WC.seq ?_
    refine WC.region ?_
    refine WL.run 4 tt_ok sg0 rfl rfl trivial ?_
    refine WL.nil ?_
    refine QT.n ?_
    refine WC.nilT 2 enc_api_Decl rfl ?_
    refine WC.ret ?_
    refine QT.r ?_
    cases H
    exact Ends.auto rfl rfl rfl trivial
  replace H := of_f H h4
  refine WC.skip ?_
  refine QT.n ?_
  refine WC.seq ?_
  refine WC.seq ?_
  refine WC.region ?_
  refine WL.run 2 tt_ok sg0 rfl rfl trivial ?_
  refine WL.nil ?_
  refine QT.n ?_
  refine WC.cond rfl (fun h5 => ?_) (fun h5 => ?_)
  · replace H := of_t H h5
    refine WC.seq ?_
    refine WC.region ?_
    refine WL.run 3 tt_ok sg0 rfl rfl trivial ?_
    refine WL.nil ?_
    refine QT.n ?_
    refine WC.nilT 2 enc_api_Decl rfl ?_
    refine WC.ret ?_
    refine QT.r ?_
    cases H
    exact Ends.auto rfl rfl rfl trivial
  replace H := of_f H h5
  refine WC.skip ?_
  refine QT.n ?_
  refine WC.seq ?_
  refine WC.region ?_
  refine WL.run 1 tt_ok sg0 rfl rfl trivial ?_
  refine WL.nil ?_
  refine QT.n ?_
  refine WC.seq ?_
  refine WC.seq ?_
  refine WC.region ?_
  refine WL.run 2 tt_ok sg0 rfl rfl trivial ?_
  refine WL.nil ?_
  refine QT.n ?_
  refine WC.block ?_
  refine WC.nilrow (t := 8) 1035 45 3 rfl rfl rfl ?_
  refine WC.loop (ι := {x : Nat × (Int × (List T_api_Decl) × ByteArray × Int × Int) // decl_Get_l8 a0 x2 x.1 x.2 = some r}) (fun x => [(0, .d (.str a0)), (5, .ptr 2140 0), (8, .own 1035), (24, .d (.int .u64 x2.1)), (25, .d (.int .u64 x.1.2.1))]) (fun x => [(1035, .row 45 3 (x.1.2.2.1.map enc_api_Decl)), (2140, .box 74 [.d (.str x.1.2.2.2.1), .d (.int .i64 x.1.2.2.2.2.1), .d (.int .i64 x.1.2.2.2.2.2)])]) (fun x => x.1.1) ⟨(fuel, (0, ([] : List T_api_Decl), x2.2.s, x2.2.at_, x2.2.err)), H⟩ (Less.mk' ⟨rfl, rfl, rfl, rfl, rfl, trivial⟩ ⟨rfl, rfl, trivial⟩) fun x => ?_
  obtain ⟨⟨k8, s7⟩, H⟩ := x
  rcases k8 with _ | k8
  · exact of_none H
  rw [decl_Get_l8] at H
  refine WC.seq ?_
  refine WC.region ?_
  refine WL.run 1 tt_ok sg0 rfl rfl trivial ?_
  refine WL.nil ?_
  refine QT.n ?_
  refine WC.seq ?_
  refine WC.cond rfl (fun h9 => ?_) (fun h9 => ?_)
  · replace H := of_t H h9
    refine WC.skip ?_
    refine QT.n ?_
    refine WC.seq ?_
    refine WC.block ?_
    refine WC.seq ?_
    refine WC.region ?_
    refine WL.run 1 tt_ok sg0 rfl rfl trivial ?_
    obtain ⟨x10, hx10, H⟩ := of_bind H
    refine WL.call [] (decl_read_s 2140 rfl _ hx10) decl_read_f rfl rfl ⟨rfl, trivial⟩ rfl rfl rfl ?_
    refine WL.run 3 tt_ok sg0 rfl rfl trivial ?_
    refine WL.alloc 109 tt_ok rfl rfl rfl ?_
    refine WL.eff 0 tt_ok et_ok eg0 rfl rfl rfl trivial ?_
    refine WL.run 1 tt_ok sg0 rfl rfl trivial ?_
    refine WL.nil ?_
    refine QT.n ?_
    refine WC.seq ?_
    refine WC.seq ?_
    refine WC.region ?_
    refine WL.run 2 tt_ok sg0 rfl rfl trivial ?_
    refine WL.nil ?_
    refine QT.n ?_
    refine WC.cond rfl (fun h11 => ?_) (fun h11 => ?_)
    · replace H := of_t H h11
      refine WC.seq ?_
      refine WC.region ?_
      refine WL.run 4 tt_ok sg0 rfl rfl trivial ?_
      refine WL.nil ?_
      refine QT.n ?_
      refine WC.nilT 2 enc_api_Decl rfl ?_
      refine WC.ret ?_
      refine QT.r (QB.r (QT.r (QT.r (QB.r (QT.r ?_)))))
      cases H
      exact Ends.auto rfl rfl rfl trivial
    replace H := of_f H h11
    refine WC.skip ?_
    refine QT.n ?_
    refine WC.region ?_
    refine WL.run 2 tt_ok sg0 rfl rfl trivial ?_
    refine WL.eff 137 tt_ok et_ok eg0 rfl rfl rfl trivial ?_
    refine WL.freezeT 137 enc_api_Decl ([x10.1] : List T_api_Decl) rfl rfl rfl rfl ?_
    obtain ⟨g12, H⟩ := of_need H
    refine WL.appT enc_api_Decl s7.2.1 ([x10.1] : List T_api_Decl) tt_ok et_ok rfl rfl (fun _ => rfl) (fun _ => rfl) rfl rfl rfl rfl (nCap_ok g12) rfl rfl rfl rfl rfl ?_
    refine WL.run 1 tt_ok sg0 rfl rfl trivial ?_
    refine WL.nil ?_
    refine QB.n (QT.n ?_)
    refine WC.region ?_
    refine WL.run 2 tt_ok sg0 rfl rfl trivial ?_
    refine WL.nil ?_
    refine QT.n ?_
    exact ⟨⟨(k8, (IntKind.u64.wrap (s7.1 + 1), s7.2.1 ++ ([x10.1] : List T_api_Decl), x10.2.2.s, x10.2.2.at_, x10.2.2.err)), H⟩, Nat.lt_succ_self _, Less.mk' ⟨rfl, rfl, rfl, rfl, rfl, trivial⟩ ⟨rfl, rfl, trivial⟩⟩
  replace H := of_f H h9
  refine WC.exit ?_
  refine QT.x (QT.x (QB.hit (QT.n ?_)))
  refine WC.seq ?_
  refine WC.seq ?_
  refine WC.region ?_
  refine WL.run 1 tt_ok sg0 rfl rfl trivial ?_
  refine WL.freezeT 1035 enc_api_Decl s7.2.1 rfl rfl rfl rfl ?_
  obtain ⟨x13, hx13, H⟩ := of_bind H
  refine WL.call [] (decl_Check_0 _ hx13) decl_Check_f rfl rfl trivial rfl rfl rfl ?_
  refine WL.run 5 tt_ok sg0 rfl rfl trivial ?_
  refine WL.nil ?_
  refine QT.n ?_
  refine WC.seq ?_
  refine WC.region ?_
  refine WL.run 2 tt_ok sg0 rfl rfl trivial ?_
  refine WL.nil ?_
  refine QT.n ?_
  refine WC.cond rfl (fun h14 => ?_) (fun h14 => ?_)
  · replace H := of_t H h14
    refine WC.seq ?_
    refine WC.region ?_
    refine WL.run 4 tt_ok sg0 rfl rfl trivial ?_
    refine WL.nil ?_
    refine QT.n ?_
    refine WC.nilT 2 enc_api_Decl rfl ?_
    refine WC.ret ?_
    refine QT.r ?_
    cases H
    exact Ends.auto rfl rfl rfl trivial
  replace H := of_f H h14
  refine WC.skip ?_
  refine QT.n ?_
  refine WC.seq ?_
  refine WC.region ?_
  refine WL.run 4 tt_ok sg0 rfl rfl trivial ?_
  obtain ⟨x15, hx15, H⟩ := of_bind H
  refine WL.call [] (octet_In_Left_s 2140 rfl _ hx15) octet_In_Left_f rfl rfl ⟨rfl, trivial⟩ rfl rfl rfl ?_
  refine WL.run 4 tt_ok sg0 rfl rfl trivial ?_
  refine WL.nil ?_
  refine QT.n ?_
  refine WC.ret ?_
  cases H
  exact Ends.auto rfl rfl rfl trivial
theorem decl_Get_f : hasFunc Try.prog 13 Try.f13 := ⟨Try.func13, rfl, by kernel_rfl⟩

/-! ### logjam/logjamlaw08.lives -/
theorem law08_lives_0  {r : Bool} (H : law08_lives = some r) : LJ.Spec Try.prog 12 [] [] (.d (.bool r)) [] := by
  refine LJ.Spec.code Try.func12 rfl 55 rfl rfl [] rfl fun w0 F0 S0 B0 => ?_
  unfold law08_lives at H
  refine WC.seq ?_
  refine WC.region ?_
  refine WL.run 1 tt_ok sg0 rfl rfl trivial ?_
  refine WL.nil ?_
  refine QT.n ?_
  refine WC.seq ?_
  refine WC.region ?_
  refine WL.run 2 tt_ok sg0 rfl rfl trivial ?_
  refine WL.eff 111 tt_ok et_ok eg0 rfl rfl rfl trivial ?_
  refine WL.freezeT 111 enc_api_Decl ([(⟨1, 0, 0⟩ : T_api_Decl), (⟨7, 5, 0⟩ : T_api_Decl)] : List T_api_Decl) rfl rfl rfl rfl ?_
  obtain ⟨x1, hx1, H⟩ := of_bind H
  refine WL.call [] (decl_Put_0 _ hx1) decl_Put_f rfl rfl trivial rfl rfl rfl ?_
  refine WL.run 5 tt_ok sg0 rfl rfl trivial ?_
  refine WL.nil ?_
  refine QT.n ?_
  refine WC.seq ?_
  refine WC.region ?_
  obtain ⟨g2, H⟩ := of_need H
  refine WL.run 2 tt_ok sg0 rfl rfl ⟨(nStr_ok g2), trivial⟩ ?_
  obtain ⟨x3, hx3, H⟩ := of_bind H
  refine WL.call [] (decl_Get_0 _ hx3) decl_Get_f rfl rfl trivial rfl rfl rfl ?_
  refine WL.run 7 tt_ok sg0 rfl rfl trivial ?_
  refine WL.nil ?_
  refine QT.n ?_
  refine WC.seq ?_
  refine WC.region ?_
  refine WL.run 1 tt_ok sg0 rfl rfl trivial ?_
  refine WL.eff 124 tt_ok et_ok eg0 rfl rfl rfl trivial ?_
  refine WL.freezeT 124 enc_api_Decl ([(⟨9, 0, 0⟩ : T_api_Decl)] : List T_api_Decl) rfl rfl rfl rfl ?_
  obtain ⟨x4, hx4, H⟩ := of_bind H
  refine WL.call [] (decl_Check_0 _ hx4) decl_Check_f rfl rfl trivial rfl rfl rfl ?_
  refine WL.run 5 tt_ok sg0 rfl rfl trivial ?_
  refine WL.nil ?_
  refine QT.n ?_
  refine WC.seq ?_
  refine WC.region ?_
  refine WL.run 3 tt_ok sg0 rfl rfl trivial ?_
  refine WL.sect 2 2 true tt_ok sg0 rfl rfl (fun _ => trivial) ?_
  refine WL.run 2 tt_ok sg0 rfl rfl ⟨by first | exact id | exact fun h => by rw [h]; rfl | simp_all, trivial⟩ ?_
  refine WL.sect 3 6 true tt_ok sg0 rfl rfl (fun _ => trivial) ?_
  refine WL.run 2 tt_ok sg0 rfl rfl ⟨by first | exact id | exact fun h => by rw [h]; rfl | simp_all, trivial⟩ ?_
  refine WL.sect 2 11 true tt_ok sg0 rfl rfl (fun _ => trivial) ?_
  refine WL.run 2 tt_ok sg0 rfl rfl ⟨by first | exact id | exact fun h => by rw [h]; rfl | simp_all, trivial⟩ ?_
  refine WL.sect 2 15 true tt_ok sg0 rfl rfl (fun _ => trivial) ?_
  refine WL.run 2 tt_ok sg0 rfl rfl ⟨by first | exact id | exact fun h => by rw [h]; rfl | simp_all, trivial⟩ ?_
  refine WL.sect 2 19 true tt_ok sg0 rfl rfl (fun _ => trivial) ?_
  refine WL.run 2 tt_ok sg0 rfl rfl ⟨by first | exact id | exact fun h => by rw [h]; rfl | simp_all, trivial⟩ ?_
  obtain ⟨x5, hx5, H⟩ := of_bind H
  refine WL.sect 2 23 true tt_ok [PSig.at' decl_Name_f (((((((sEq x1.1 (⟨#[2, 1, 7, 10, 0]⟩ : ByteArray)) && (iEq x1.2 0)) && (iEq (x3.1.length : Int) 2)) && (iEq x3.2.1 5)) && (iEq x3.2.2 0)) && (iEq x4.2 6)) = true) rfl (fun hb => decl_Name_0 _ (of_t hx5 hb))] rfl rfl (fun hb => ⟨⟨hb, rfl⟩, trivial⟩) ?_
  refine WL.run 2 tt_ok sg0 rfl rfl ⟨by first | exact id | exact fun h => by rw [h]; rfl | simp_all, trivial⟩ ?_
  refine WL.nil ?_
  refine QT.n ?_
  refine WC.ret ?_
  cases H
  exact Ends.auto rfl rfl rfl trivial
theorem law08_lives_f : hasFunc Try.prog 12 Try.f12 := ⟨Try.func12, rfl, by kernel_rfl⟩

/-! ### logjam/logjamlaw08.DeclChecks -/
theorem law08_DeclChecks_0 (a0 : List T_api_Decl) {r : Bool} (H : law08_DeclChecks a0 = some r) : LJ.Spec Try.prog 3 [.d (slT enc_api_Decl a0)] [] (.d (.bool r)) [] := by
  refine LJ.Spec.code Try.func3 rfl 65 rfl rfl [] rfl fun w0 F0 S0 B0 => ?_
  unfold law08_DeclChecks at H
  refine WC.seq ?_
  refine WC.region ?_
  refine WL.run 1 tt_ok sg0 rfl rfl trivial ?_
  refine WL.nil ?_
  refine QT.n ?_
  refine WC.seq ?_
  refine WC.seq ?_
  refine WC.region ?_
  refine WL.run 3 tt_ok sg0 rfl rfl trivial ?_
  refine WL.nil ?_
  refine QT.n ?_
  refine WC.cond rfl (fun h1 => ?_) (fun h1 => ?_)
  · replace H := of_t H h1
    refine WC.region ?_
    refine WL.run 1 tt_ok sg0 rfl rfl trivial ?_
    obtain ⟨g2, H⟩ := of_need H
    refine WL.yv (LJ.Y.sliceT enc_api_Decl a0 tt_ok rfl (fun _ => rfl) none (some (.const (.int .i64 100))) (0 : Int) (100 : Int) rfl rfl ⟨_, rfl⟩ rfl rfl (nSl_ok g2)) rfl rfl rfl ?_
    refine WL.run 1 tt_ok sg0 rfl rfl trivial ?_
    refine WL.nil ?_
    refine QT.n ?_
    refine WC.seq ?_
    refine WC.region ?_
    refine WL.eff 115 tt_ok et_ok eg0 rfl rfl rfl trivial ?_
    refine WL.run 1 tt_ok sg0 rfl rfl trivial ?_
    refine WL.row 115 (([] : List T_api_Decl).map enc_api_Decl) rfl rfl rfl ?_
    obtain ⟨g3, H⟩ := of_need H
    refine WL.appT enc_api_Decl ([] : List T_api_Decl) ((a0.take (100 : Int).toNat).drop (0 : Int).toNat) tt_ok et_ok rfl rfl (fun _ => rfl) (fun _ => rfl) rfl rfl rfl rfl (nCap_ok g3) rfl rfl rfl rfl rfl ?_
    refine WL.run 1 tt_ok sg0 rfl rfl trivial ?_
    refine WL.nil ?_
    refine QT.n ?_
    refine WC.seq ?_
    refine WC.region ?_
    refine WL.run 1 tt_ok sg0 rfl rfl trivial ?_
    refine WL.freezeT 115 enc_api_Decl (([] : List T_api_Decl) ++ ((a0.take (100 : Int).toNat).drop (0 : Int).toNat)) rfl rfl rfl rfl ?_
    obtain ⟨x4, hx4, H⟩ := of_bind H
    refine WL.call [] (decl_Check_0 _ hx4) decl_Check_f rfl rfl trivial rfl rfl rfl ?_
    refine WL.run 5 tt_ok sg0 rfl rfl trivial ?_
    refine WL.nil ?_
    refine QT.n ?_
    refine WC.seq ?_
    refine WC.region ?_
    refine WL.run 1 tt_ok sg0 rfl rfl trivial ?_
    obtain ⟨x5, hx5, H⟩ := of_bind H
    refine WL.call [] (ref08_Check_0 _ hx5) ref08_Check_f rfl rfl trivial rfl rfl rfl ?_
    refine WL.run 5 tt_ok sg0 rfl rfl trivial ?_
    refine WL.nil ?_
    refine QT.n ?_
    refine WC.seq ?_
    refine WC.region ?_
    refine WL.run 1 tt_ok sg0 rfl rfl trivial ?_
    obtain ⟨x6, hx6, H⟩ := of_bind H
    refine WL.call [] (decl_Put_0 _ hx6) decl_Put_f rfl rfl trivial rfl rfl rfl ?_
    refine WL.run 5 tt_ok sg0 rfl rfl trivial ?_
    refine WL.nil ?_
    refine QT.n ?_
    refine WC.seq ?_
    refine WC.seq ?_
    refine WC.region ?_
    refine WL.run 4 tt_ok sg0 rfl rfl trivial ?_
    refine WL.sect 3 3 false tt_ok sg0 rfl rfl (fun _ => trivial) ?_
    refine WL.run 2 tt_ok sg0 rfl rfl ⟨by first | exact id | exact fun h => by rw [h]; rfl | simp_all, trivial⟩ ?_
    refine WL.sect 3 8 false tt_ok sg0 rfl rfl (fun _ => trivial) ?_
    refine WL.run 1 tt_ok sg0 rfl rfl ⟨by first | exact id | exact fun h => by rw [h]; rfl | simp_all, trivial⟩ ?_
    refine WL.nil ?_
    refine QT.n ?_
    refine WC.cond rfl (fun h7 => ?_) (fun h7 => ?_)
    · replace H := of_t H h7
      refine WC.seq ?_
      refine WC.region ?_
      refine WL.run 1 tt_ok sg0 rfl rfl trivial ?_
      refine WL.nil ?_
      refine QT.n ?_
      refine WC.ret ?_
      refine QT.r ?_
      cases H
      exact Ends.auto rfl rfl rfl trivial
    replace H := of_f H h7
    refine WC.skip ?_
    refine QT.n ?_
    refine WC.seq ?_
    refine WC.region ?_
    refine WL.run 3 tt_ok sg0 rfl rfl trivial ?_
    refine WL.sect 2 2 true tt_ok sg0 rfl rfl (fun _ => trivial) ?_
    refine WL.run 2 tt_ok sg0 rfl rfl ⟨by first | exact id | exact fun h => by rw [h]; rfl | simp_all, trivial⟩ ?_
    refine WL.sect 3 6 false tt_ok sg0 rfl rfl (fun _ => trivial) ?_
    obtain ⟨x8, hx8, H⟩ := of_bind H
    refine WL.sect 4 9 true tt_ok [PSig.at' ref08_Put_f (((!((iNe x5.2 0) && (sEq x6.1 ByteArray.empty))) && (iEq x5.2 0)) = true) rfl (fun hb => ref08_Put_0 _ (of_t hx8 hb))] rfl rfl (fun hb => ⟨⟨hb, rfl⟩, trivial⟩) ?_
    refine WL.sect 1 6 false tt_ok sg0 rfl rfl (fun hb => ⟨by first | exact id | exact ⟨hb, fun h => by rw [hb, h]; rfl⟩ | exact ⟨hb, id⟩ | exact fun h => by rw [hb, h]; rfl | exact fun h => by rw [h]; rfl | simp_all, trivial⟩) ?_
    refine WL.run 2 tt_ok sg0 rfl rfl ⟨by first | exact id | exact fun h => by rw [h]; rfl | simp_all, trivial⟩ ?_
    obtain ⟨x9, hx9, H⟩ := of_bind H
    refine WL.sect 1 16 true tt_ok [PSig.at' law08_lives_f ((((iNe x5.2 0) && (sEq x6.1 ByteArray.empty)) || ((iEq x5.2 0) && (sEq x6.1 x8))) = true) rfl (fun hb => law08_lives_0  (of_t hx9 hb))] rfl rfl (fun hb => ⟨⟨hb, rfl⟩, trivial⟩) ?_
    refine WL.run 2 tt_ok sg0 rfl rfl ⟨by first | exact id | exact fun h => by rw [h]; rfl | simp_all, trivial⟩ ?_
    refine WL.nil ?_
    refine QT.n ?_
    refine WC.ret ?_
    cases H
    exact Ends.auto rfl rfl rfl trivial
  replace H := of_f H h1
  refine WC.skip ?_
  refine QT.n ?_
  refine WC.seq ?_
  refine WC.region ?_
  refine WL.eff 115 tt_ok et_ok eg0 rfl rfl rfl trivial ?_
  refine WL.run 1 tt_ok sg0 rfl rfl trivial ?_
  refine WL.row 115 (([] : List T_api_Decl).map enc_api_Decl) rfl rfl rfl ?_
  obtain ⟨g10, H⟩ := of_need H
  refine WL.appT enc_api_Decl ([] : List T_api_Decl) a0 tt_ok et_ok rfl rfl (fun _ => rfl) (fun _ => rfl) rfl rfl rfl rfl (nCap_ok g10) rfl rfl rfl rfl rfl ?_
  refine WL.run 1 tt_ok sg0 rfl rfl trivial ?_
  refine WL.nil ?_
  refine QT.n ?_
  refine WC.seq ?_
  refine WC.region ?_
  refine WL.run 1 tt_ok sg0 rfl rfl trivial ?_
  refine WL.freezeT 115 enc_api_Decl (([] : List T_api_Decl) ++ a0) rfl rfl rfl rfl ?_
  obtain ⟨x11, hx11, H⟩ := of_bind H
  refine WL.call [] (decl_Check_0 _ hx11) decl_Check_f rfl rfl trivial rfl rfl rfl ?_
  refine WL.run 5 tt_ok sg0 rfl rfl trivial ?_
  refine WL.nil ?_
  refine QT.n ?_
  refine WC.seq ?_
  refine WC.region ?_
  refine WL.run 1 tt_ok sg0 rfl rfl trivial ?_
  obtain ⟨x12, hx12, H⟩ := of_bind H
  refine WL.call [] (ref08_Check_0 _ hx12) ref08_Check_f rfl rfl trivial rfl rfl rfl ?_
  refine WL.run 5 tt_ok sg0 rfl rfl trivial ?_
  refine WL.nil ?_
  refine QT.n ?_
  refine WC.seq ?_
  refine WC.region ?_
  refine WL.run 1 tt_ok sg0 rfl rfl trivial ?_
  obtain ⟨x13, hx13, H⟩ := of_bind H
  refine WL.call [] (decl_Put_0 _ hx13) decl_Put_f rfl rfl trivial rfl rfl rfl ?_
  refine WL.run 5 tt_ok sg0 rfl rfl trivial ?_
  refine WL.nil ?_
  refine QT.n ?_
  refine WC.seq ?_
  refine WC.seq ?_
  refine WC.region ?_
  refine WL.run 4 tt_ok sg0 rfl rfl trivial ?_
  refine WL.sect 3 3 false tt_ok sg0 rfl rfl (fun _ => trivial) ?_
  refine WL.run 2 tt_ok sg0 rfl rfl ⟨by first | exact id | exact fun h => by rw [h]; rfl | simp_all, trivial⟩ ?_
  refine WL.sect 3 8 false tt_ok sg0 rfl rfl (fun _ => trivial) ?_
  refine WL.run 1 tt_ok sg0 rfl rfl ⟨by first | exact id | exact fun h => by rw [h]; rfl | simp_all, trivial⟩ ?_
  refine WL.nil ?_
  refine QT.n ?_
  refine WC.cond rfl (fun h14 => ?_) (fun h14 => ?_)
  · replace H := of_t H h14
    refine WC.seq ?_
    refine WC.region ?_
    refine WL.run 1 tt_ok sg0 rfl rfl trivial ?_
    refine WL.nil ?_
    refine QT.n ?_
    refine WC.ret ?_
    refine QT.r ?_
    cases H
    exact Ends.auto rfl rfl rfl trivial
  replace H := of_f H h14
  refine WC.skip ?_
  refine QT.n ?_
  refine WC.seq ?_
  refine WC.region ?_
  refine WL.run 3 tt_ok sg0 rfl rfl trivial ?_
  refine WL.sect 2 2 true tt_ok sg0 rfl rfl (fun _ => trivial) ?_
  refine WL.run 2 tt_ok sg0 rfl rfl ⟨by first | exact id | exact fun h => by rw [h]; rfl | simp_all, trivial⟩ ?_
  refine WL.sect 3 6 false tt_ok sg0 rfl rfl (fun _ => trivial) ?_
  obtain ⟨x15, hx15, H⟩ := of_bind H
  refine WL.sect 4 9 true tt_ok [PSig.at' ref08_Put_f (((!((iNe x12.2 0) && (sEq x13.1 ByteArray.empty))) && (iEq x12.2 0)) = true) rfl (fun hb => ref08_Put_0 _ (of_t hx15 hb))] rfl rfl (fun hb => ⟨⟨hb, rfl⟩, trivial⟩) ?_
  refine WL.sect 1 6 false tt_ok sg0 rfl rfl (fun hb => ⟨by first | exact id | exact ⟨hb, fun h => by rw [hb, h]; rfl⟩ | exact ⟨hb, id⟩ | exact fun h => by rw [hb, h]; rfl | exact fun h => by rw [h]; rfl | simp_all, trivial⟩) ?_
  refine WL.run 2 tt_ok sg0 rfl rfl ⟨by first | exact id | exact fun h => by rw [h]; rfl | simp_all, trivial⟩ ?_
  obtain ⟨x16, hx16, H⟩ := of_bind H
  refine WL.sect 1 16 true tt_ok [PSig.at' law08_lives_f ((((iNe x12.2 0) && (sEq x13.1 ByteArray.empty)) || ((iEq x12.2 0) && (sEq x13.1 x15))) = true) rfl (fun hb => law08_lives_0  (of_t hx16 hb))] rfl rfl (fun hb => ⟨⟨hb, rfl⟩, trivial⟩) ?_
  refine WL.run 2 tt_ok sg0 rfl rfl ⟨by first | exact id | exact fun h => by rw [h]; rfl | simp_all, trivial⟩ ?_
  refine WL.nil ?_
  refine QT.n ?_
  refine WC.ret ?_
  cases H
  exact Ends.auto rfl rfl rfl trivial
theorem law08_DeclChecks_f : hasFunc Try.prog 3 Try.f3 := ⟨Try.func3, rfl, by kernel_rfl⟩

/-! ### logjam/logjamref01.Fail -/
theorem ref01_Fail_0 (a0 : T_ref01_R) (a1 : Int) {r : T_ref01_R} (H : ref01_Fail a0 a1 = some r) : LJ.Spec Try.prog 46 [.d (.agg [.str a0.S, .int .i64 a0.At, .int .i64 a0.Err]), .d (.int .i64 a1)] [] (.d (.agg [.str r.S, .int .i64 r.At, .int .i64 r.Err])) [] := by
  refine LJ.Spec.code Try.func46 rfl 15 rfl rfl [] rfl fun w0 F0 S0 B0 => ?_
  unfold ref01_Fail at H
  refine WC.seq ?_
  refine WC.region ?_
  refine WL.eff 102 tt_ok et_ok eg0 rfl rfl rfl trivial ?_
  refine WL.alloc 104 tt_ok rfl rfl rfl ?_
  refine WL.nil ?_
  refine QT.n ?_
  refine WC.seq ?_
  refine WC.seq ?_
  refine WC.region ?_
  refine WL.run 3 tt_ok sg0 rfl rfl trivial ?_
  refine WL.nil ?_
  refine QT.n ?_
  refine WC.cond rfl (fun h1 => ?_) (fun h1 => ?_)
  · replace H := of_t H h1
    refine WC.region ?_
    refine WL.run 5 tt_ok sg0 rfl rfl trivial ?_
    refine WL.eff 0 tt_ok et_ok eg0 rfl rfl rfl trivial ?_
    refine WL.run 1 tt_ok sg0 rfl rfl trivial ?_
    refine WL.eff 0 tt_ok et_ok eg0 rfl rfl rfl trivial ?_
    refine WL.nil ?_
    refine QT.n ?_
    refine WC.seq ?_
    refine WC.region ?_
    refine WL.run 1 tt_ok sg0 rfl rfl trivial ?_
    refine WL.eff 0 tt_ok et_ok eg0 rfl rfl rfl trivial ?_
    refine WL.nil ?_
    refine QT.n ?_
    refine WC.ret ?_
    cases H
    exact Ends.autoC tt_ok rfl rfl rfl trivial
  replace H := of_f H h1
  refine WC.skip ?_
  refine QT.n ?_
  refine WC.seq ?_
  refine WC.region ?_
  refine WL.run 1 tt_ok sg0 rfl rfl trivial ?_
  refine WL.eff 0 tt_ok et_ok eg0 rfl rfl rfl trivial ?_
  refine WL.nil ?_
  refine QT.n ?_
  refine WC.ret ?_
  cases H
  exact Ends.autoC tt_ok rfl rfl rfl trivial
theorem ref01_Fail_f : hasFunc Try.prog 46 Try.f46 := ⟨Try.func46, rfl, by kernel_rfl⟩

/-! ### logjam/logjamref01.Byte -/
theorem ref01_Byte_0 (a0 : T_ref01_R) {r : Int × T_ref01_R} (H : ref01_Byte a0 = some r) : LJ.Spec Try.prog 43 [.d (.agg [.str a0.S, .int .i64 a0.At, .int .i64 a0.Err])] [] (.tup [.d (.int .i64 r.1), .d (.agg [.str r.2.S, .int .i64 r.2.At, .int .i64 r.2.Err])]) [] := by
  refine LJ.Spec.code Try.func43 rfl 25 rfl rfl [] rfl fun w0 F0 S0 B0 => ?_
  unfold ref01_Byte at H
  refine WC.seq ?_
  refine WC.region ?_
  refine WL.eff 101 tt_ok et_ok eg0 rfl rfl rfl trivial ?_
  refine WL.run 1 tt_ok sg0 rfl rfl trivial ?_
  refine WL.alloc 103 tt_ok rfl rfl rfl ?_
  refine WL.nil ?_
  refine QT.n ?_
  refine WC.seq ?_
  refine WC.seq ?_
  refine WC.region ?_
  refine WL.run 6 tt_ok sg0 rfl rfl trivial ?_
  refine WL.nil ?_
  refine QT.n ?_
  refine WC.cond rfl (fun h1 => ?_) (fun h1 => ?_)
  · replace H := of_t H h1
    refine WC.seq ?_
    refine WC.region ?_
    refine WL.run 1 tt_ok sg0 rfl rfl trivial ?_
    obtain ⟨x2, hx2, H⟩ := of_bind H
    refine WL.call [] (ref01_Fail_0 _ _ hx2) ref01_Fail_f rfl rfl trivial rfl rfl rfl ?_
    refine WL.run 1 tt_ok sg0 rfl rfl trivial ?_
    refine WL.eff 0 tt_ok et_ok eg0 rfl rfl rfl trivial ?_
    refine WL.nil ?_
    refine QT.n ?_
    refine WC.ret ?_
    refine QT.r ?_
    cases H
    exact Ends.autoC tt_ok rfl rfl rfl trivial
  replace H := of_f H h1
  refine WC.skip ?_
  refine QT.n ?_
  refine WC.seq ?_
  refine WC.region ?_
  obtain ⟨g3, H⟩ := of_need H
  refine WL.run 7 tt_ok sg0 rfl rfl ⟨(nIn_ok g3), trivial⟩ ?_
  refine WL.nil ?_
  refine QT.n ?_
  refine WC.seq ?_
  refine WC.region ?_
  refine WL.run 4 tt_ok sg0 rfl rfl trivial ?_
  refine WL.eff 0 tt_ok et_ok eg0 rfl rfl rfl trivial ?_
  refine WL.nil ?_
  refine QT.n ?_
  refine WC.seq ?_
  refine WC.heldP (.one 0 true (.one 1 true (.one 2 true (.one 3 false .done)))) [101, 103] [101] rfl (by kernel_rfl) rfl (by kernel_rfl) rfl rfl (fun _ h => h) rfl rfl rfl (fun _ _ _ h => h) fun FK NK wK K => ?_
  refine WH.run 3 tt_ok rfl rfl rfl rfl trivial ?_
  refine WH.eff 0 tt_ok et_ok rfl rfl rfl rfl trivial rfl rfl ?_
  refine WH.nil rfl ?_
  refine QT.n ?_
  refine WC.ret ?_
  cases H
  exact Ends.autoC tt_ok rfl rfl rfl trivial
theorem ref01_Byte_f : hasFunc Try.prog 43 Try.f43 := ⟨Try.func43, rfl, by kernel_rfl⟩

/-! ### logjam/logjamref01.Number -/
theorem ref01_Number_0 (a0 : T_ref01_R) {r : Int × T_ref01_R} (H : ref01_Number a0 = some r) : LJ.Spec Try.prog 45 [.d (.agg [.str a0.S, .int .i64 a0.At, .int .i64 a0.Err])] [] (.tup [.d (.int .u64 r.1), .d (.agg [.str r.2.S, .int .i64 r.2.At, .int .i64 r.2.Err])]) [] := by
  refine LJ.Spec.code Try.func45 rfl 52 rfl rfl [] rfl fun w0 F0 S0 B0 => ?_
  unfold ref01_Number at H
  refine WC.seq ?_
  refine WC.region ?_
  refine WL.eff 101 tt_ok et_ok eg0 rfl rfl rfl trivial ?_
  refine WL.run 1 tt_ok sg0 rfl rfl trivial ?_
  refine WL.alloc 103 tt_ok rfl rfl rfl ?_
  refine WL.nil ?_
  refine QT.n ?_
  refine WC.seq ?_
  refine WC.region ?_
  refine WL.run 3 tt_ok sg0 rfl rfl trivial ?_
  refine WL.nil ?_
  refine QT.n ?_
  refine WC.seq ?_
  refine WC.seq ?_
  refine WC.region ?_
  refine WL.run 1 tt_ok sg0 rfl rfl trivial ?_
  refine WL.nil ?_
  refine QT.n ?_
  refine WC.block ?_
  refine WC.loop (ι := {x : Nat × (Int × Int × Int × ByteArray × Int × Int) // ref01_Number_l2 x.1 x.2 = some r}) (fun x => [(1, .ptr 101 0), (3, .ptr 103 0), (4, .d (.int .u64 x.1.2.1)), (5, .d (.int .u64 x.1.2.2.1)), (7, .d (.int .i64 x.1.2.2.2.1))]) (fun x => [(101, .box 65 [.d (.str x.1.2.2.2.2.1), .d (.int .i64 x.1.2.2.2.2.2.1), .d (.int .i64 x.1.2.2.2.2.2.2)]), (103, .box 65 [.d (.str ByteArray.empty), .d (.int .i64 0), .d (.int .i64 0)])]) (fun x => x.1.1) ⟨(fuel, (0, 1, 0, a0.S, a0.At, a0.Err)), H⟩ (Less.mk' ⟨rfl, rfl, rfl, rfl, rfl, trivial⟩ ⟨rfl, rfl, trivial⟩) fun x => ?_
  obtain ⟨⟨k2, s1⟩, H⟩ := x
  rcases k2 with _ | k2
  · exact of_none H
  rw [ref01_Number_l2] at H
  refine WC.seq ?_
  refine WC.seq ?_
  refine WC.region ?_
  refine WL.run 2 tt_ok sg0 rfl rfl trivial ?_
  refine WL.nil ?_
  refine QT.n ?_
  refine WC.cond rfl (fun h3 => ?_) (fun h3 => ?_)
  · replace H := of_t H h3
    refine WC.skip ?_
    refine QT.n ?_
    refine WC.seq ?_
    refine WC.block ?_
    refine WC.seq ?_
    refine WC.region ?_
    refine WL.run 1 tt_ok sg0 rfl rfl trivial ?_
    obtain ⟨x4, hx4, H⟩ := of_bind H
    refine WL.call [] (ref01_Byte_0 _ hx4) ref01_Byte_f rfl rfl trivial rfl rfl rfl ?_
    refine WL.run 4 tt_ok sg0 rfl rfl trivial ?_
    refine WL.eff 0 tt_ok et_ok eg0 rfl rfl rfl trivial ?_
    refine WL.nil ?_
    refine QT.n ?_
    refine WC.seq ?_
    refine WC.seq ?_
    refine WC.region ?_
    refine WL.run 3 tt_ok sg0 rfl rfl trivial ?_
    refine WL.nil ?_
    refine QT.n ?_
    refine WC.cond rfl (fun h5 => ?_) (fun h5 => ?_)
    · replace H := of_t H h5
      refine WC.seq ?_
      refine WC.heldP (.one 0 true (.one 1 true (.one 2 false .done))) [101, 103] [101] rfl (by kernel_rfl) rfl (by kernel_rfl) rfl rfl (fun _ h => h) rfl rfl rfl (fun _ _ _ h => h) fun FK NK wK K => ?_
      refine WH.run 2 tt_ok rfl rfl rfl rfl trivial ?_
      refine WH.eff 0 tt_ok et_ok rfl rfl rfl rfl trivial rfl rfl ?_
      refine WH.nil rfl ?_
      refine QT.n ?_
      refine WC.ret ?_
      refine QT.r (QB.r (QT.r (QT.r (QB.r (QT.r ?_)))))
      cases H
      exact Ends.autoC tt_ok rfl rfl rfl trivial
    replace H := of_f H h5
    refine WC.skip ?_
    refine QT.n ?_
    refine WC.seq ?_
    refine WC.seq ?_
    refine WC.region ?_
    refine WL.run 3 tt_ok sg0 rfl rfl trivial ?_
    refine WL.sect 2 2 true tt_ok sg0 rfl rfl (fun _ => trivial) ?_
    refine WL.run 2 tt_ok sg0 rfl rfl ⟨by first | exact id | exact fun h => by rw [h]; rfl | simp_all, trivial⟩ ?_
    refine WL.sect 3 6 false tt_ok sg0 rfl rfl (fun _ => trivial) ?_
    refine WL.sect 2 9 true tt_ok sg0 rfl rfl (fun _ => trivial) ?_
    refine WL.sect 1 6 false tt_ok sg0 rfl rfl (fun hb => ⟨by first | exact id | exact ⟨hb, fun h => by rw [hb, h]; rfl⟩ | exact ⟨hb, id⟩ | exact fun h => by rw [hb, h]; rfl | exact fun h => by rw [h]; rfl | simp_all, trivial⟩) ?_
    refine WL.run 1 tt_ok sg0 rfl rfl ⟨by first | exact id | exact fun h => by rw [h]; rfl | simp_all, trivial⟩ ?_
    refine WL.nil ?_
    refine QT.n ?_
    refine WC.cond rfl (fun h6 => ?_) (fun h6 => ?_)
    · replace H := of_t H h6
      refine WC.seq ?_
      refine WC.region ?_
      refine WL.run 1 tt_ok sg0 rfl rfl trivial ?_
      obtain ⟨x7, hx7, H⟩ := of_bind H
      refine WL.call [] (ref01_Fail_0 _ _ hx7) ref01_Fail_f rfl rfl trivial rfl rfl rfl ?_
      refine WL.run 1 tt_ok sg0 rfl rfl trivial ?_
      refine WL.eff 0 tt_ok et_ok eg0 rfl rfl rfl trivial ?_
      refine WL.nil ?_
      refine QT.n ?_
      refine WC.ret ?_
      refine QT.r (QB.r (QT.r (QT.r (QB.r (QT.r ?_)))))
      cases H
      exact Ends.autoC tt_ok rfl rfl rfl trivial
    replace H := of_f H h6
    refine WC.skip ?_
    refine QT.n ?_
    refine WC.seq ?_
    refine WC.region ?_
    refine WL.run 8 tt_ok sg0 rfl rfl trivial ?_
    refine WL.nil ?_
    refine QT.n ?_
    refine WC.seq ?_
    refine WC.seq ?_
    refine WC.region ?_
    refine WL.run 2 tt_ok sg0 rfl rfl trivial ?_
    refine WL.nil ?_
    refine QT.n ?_
    refine WC.cond rfl (fun h8 => ?_) (fun h8 => ?_)
    · replace H := of_t H h8
      refine WC.seq ?_
      refine WC.heldP (.one 0 true (.one 1 true (.one 2 true (.one 3 false .done)))) [101, 103] [101] rfl (by kernel_rfl) rfl (by kernel_rfl) rfl rfl (fun _ h => h) rfl rfl rfl (fun _ _ _ h => h) fun FK NK wK K => ?_
      refine WH.run 3 tt_ok rfl rfl rfl rfl trivial ?_
      refine WH.eff 0 tt_ok et_ok rfl rfl rfl rfl trivial rfl rfl ?_
      refine WH.nil rfl ?_
      refine QT.n ?_
      refine WC.ret ?_
      refine QT.r (QB.r (QT.r (QT.r (QB.r (QT.r ?_)))))
      cases H
      exact Ends.autoC tt_ok rfl rfl rfl trivial
    replace H := of_f H h8
    refine WC.skip ?_
    refine QT.n ?_
    refine WC.region ?_
    refine WL.run 3 tt_ok sg0 rfl rfl trivial ?_
    refine WL.nil ?_
    refine QB.n (QT.n ?_)
    refine WC.region ?_
    refine WL.run 3 tt_ok sg0 rfl rfl trivial ?_
    refine WL.nil ?_
    refine QT.n ?_
    exact ⟨⟨(k2, (IntKind.u64.wrap (s1.1 + (IntKind.u64.wrap ((IntKind.u64.wrap (Int.tmod x4.1 128)) * s1.2.1))), IntKind.u64.wrap (s1.2.1 * 128), IntKind.i64.wrap (s1.2.2.1 + 1), x4.2.S, x4.2.At, x4.2.Err)), H⟩, Nat.lt_succ_self _, Less.mk' ⟨rfl, rfl, rfl, rfl, rfl, trivial⟩ ⟨rfl, rfl, trivial⟩⟩
  replace H := of_f H h3
  refine WC.exit ?_
  refine QT.x (QT.x (QB.hit (QT.n ?_)))
  refine WC.seq ?_
  refine WC.heldP (.one 0 true (.one 1 true (.one 2 true (.one 3 false .done)))) [101, 103] [101] rfl (by kernel_rfl) rfl (by kernel_rfl) rfl rfl (fun _ h => h) rfl rfl rfl (fun _ _ _ h => h) fun FK NK wK K => ?_
  refine WH.run 3 tt_ok rfl rfl rfl rfl trivial ?_
  refine WH.eff 0 tt_ok et_ok rfl rfl rfl rfl trivial rfl rfl ?_
  refine WH.nil rfl ?_
  refine QT.n ?_
  refine WC.ret ?_
  cases H
  exact Ends.autoC tt_ok rfl rfl rfl trivial
theorem ref01_Number_f : hasFunc Try.prog 45 Try.f45 := ⟨Try.func45, rfl, by kernel_rfl⟩

/-! ### logjam/logjamref08.num -/
theorem ref08_num_0 (a0 : T_ref01_R) {r : Int × T_ref01_R} (H : ref08_num a0 = some r) : LJ.Spec Try.prog 42 [.d (.agg [.str a0.S, .int .i64 a0.At, .int .i64 a0.Err])] [] (.tup [.d (.int .i64 r.1), .d (.agg [.str r.2.S, .int .i64 r.2.At, .int .i64 r.2.Err])]) [] := by
  refine LJ.Spec.code Try.func42 rfl 15 rfl rfl [] rfl fun w0 F0 S0 B0 => ?_
  unfold ref08_num at H
  refine WC.seq ?_
  refine WC.region ?_
  refine WL.eff 101 tt_ok et_ok eg0 rfl rfl rfl trivial ?_
  refine WL.run 1 tt_ok sg0 rfl rfl trivial ?_
  refine WL.alloc 103 tt_ok rfl rfl rfl ?_
  refine WL.nil ?_
  refine QT.n ?_
  refine WC.seq ?_
  refine WC.region ?_
  refine WL.run 1 tt_ok sg0 rfl rfl trivial ?_
  obtain ⟨x1, hx1, H⟩ := of_bind H
  refine WL.call [] (ref01_Number_0 _ hx1) ref01_Number_f rfl rfl trivial rfl rfl rfl ?_
  refine WL.run 3 tt_ok sg0 rfl rfl trivial ?_
  refine WL.alloc 105 tt_ok rfl rfl rfl ?_
  refine WL.run 1 tt_ok sg0 rfl rfl trivial ?_
  refine WL.eff 0 tt_ok et_ok eg0 rfl rfl rfl trivial ?_
  refine WL.nil ?_
  refine QT.n ?_
  refine WC.seq ?_
  refine WC.heldP (.one 0 true (.one 1 true (.one 2 true (.one 3 true (.one 4 true (.one 5 false .done)))))) [101, 103, 105] [101, 105] rfl (by kernel_rfl) rfl (by kernel_rfl) rfl rfl (fun _ h => h) rfl rfl rfl (fun _ _ _ h => h) fun FK NK wK K => ?_
  refine WH.run 1 tt_ok rfl rfl rfl rfl trivial ?_
  refine WH.yv rfl (LJ.Y.min rfl rfl rfl) rfl rfl rfl ?_
  refine WH.run 3 tt_ok rfl rfl rfl rfl trivial ?_
  refine WH.eff 0 tt_ok et_ok rfl rfl rfl rfl trivial rfl rfl ?_
  refine WH.nil rfl ?_
  refine QT.n ?_
  refine WC.ret ?_
  cases H
  exact Ends.autoC tt_ok rfl rfl rfl trivial
theorem ref08_num_f : hasFunc Try.prog 42 Try.f42 := ⟨Try.func42, rfl, by kernel_rfl⟩

/-! ### logjam/logjamref01.Signed -/
theorem ref01_Signed_0 (a0 : T_ref01_R) {r : Int × T_ref01_R} (H : ref01_Signed a0 = some r) : LJ.Spec Try.prog 44 [.d (.agg [.str a0.S, .int .i64 a0.At, .int .i64 a0.Err])] [] (.tup [.d (.int .i64 r.1), .d (.agg [.str r.2.S, .int .i64 r.2.At, .int .i64 r.2.Err])]) [] := by
  refine LJ.Spec.code Try.func44 rfl 24 rfl rfl [] rfl fun w0 F0 S0 B0 => ?_
  unfold ref01_Signed at H
  refine WC.seq ?_
  refine WC.region ?_
  refine WL.eff 101 tt_ok et_ok eg0 rfl rfl rfl trivial ?_
  refine WL.run 1 tt_ok sg0 rfl rfl trivial ?_
  refine WL.alloc 103 tt_ok rfl rfl rfl ?_
  refine WL.nil ?_
  refine QT.n ?_
  refine WC.seq ?_
  refine WC.region ?_
  refine WL.run 1 tt_ok sg0 rfl rfl trivial ?_
  obtain ⟨x1, hx1, H⟩ := of_bind H
  refine WL.call [] (ref01_Number_0 _ hx1) ref01_Number_f rfl rfl trivial rfl rfl rfl ?_
  refine WL.run 3 tt_ok sg0 rfl rfl trivial ?_
  refine WL.alloc 105 tt_ok rfl rfl rfl ?_
  refine WL.run 1 tt_ok sg0 rfl rfl trivial ?_
  refine WL.eff 0 tt_ok et_ok eg0 rfl rfl rfl trivial ?_
  refine WL.nil ?_
  refine QT.n ?_
  refine WC.seq ?_
  refine WC.seq ?_
  refine WC.region ?_
  refine WL.run 3 tt_ok sg0 rfl rfl trivial ?_
  refine WL.nil ?_
  refine QT.n ?_
  refine WC.cond rfl (fun h2 => ?_) (fun h2 => ?_)
  · replace H := of_t H h2
    refine WC.seq ?_
    refine WC.heldP (.one 0 true (.one 1 true (.one 2 true (.one 3 true (.one 4 true (.one 5 false .done)))))) [101, 103, 105] [101, 105] rfl (by kernel_rfl) rfl (by kernel_rfl) rfl rfl (fun _ h => h) rfl rfl rfl (fun _ _ _ h => h) fun FK NK wK K => ?_
    refine WH.run 5 tt_ok rfl rfl rfl rfl trivial ?_
    refine WH.eff 0 tt_ok et_ok rfl rfl rfl rfl trivial rfl rfl ?_
    refine WH.nil rfl ?_
    refine QT.n ?_
    refine WC.ret ?_
    refine QT.r ?_
    cases H
    exact Ends.autoC tt_ok rfl rfl rfl trivial
  replace H := of_f H h2
  refine WC.skip ?_
  refine QT.n ?_
  refine WC.seq ?_
  refine WC.heldP (.one 0 true (.one 1 true (.one 2 true (.one 3 true (.one 4 true (.one 5 true (.one 6 true (.one 7 false .done)))))))) [101, 103, 105] [101, 105] rfl (by kernel_rfl) rfl (by kernel_rfl) rfl rfl (fun _ h => h) rfl rfl rfl (fun _ _ _ h => h) fun FK NK wK K => ?_
  refine WH.run 7 tt_ok rfl rfl rfl rfl trivial ?_
  refine WH.eff 0 tt_ok et_ok rfl rfl rfl rfl trivial rfl rfl ?_
  refine WH.nil rfl ?_
  refine QT.n ?_
  refine WC.ret ?_
  cases H
  exact Ends.autoC tt_ok rfl rfl rfl trivial
theorem ref01_Signed_f : hasFunc Try.prog 44 Try.f44 := ⟨Try.func44, rfl, by kernel_rfl⟩

/-! ### logjam/logjamref08.Read -/
theorem ref08_Read_0 (a0 : T_ref01_R) {r : (List T_api_Decl) × T_ref01_R × Int} (H : ref08_Read a0 = some r) : LJ.Spec Try.prog 33 [.d (.agg [.str a0.S, .int .i64 a0.At, .int .i64 a0.Err])] [] (.tup [.d (slT enc_api_Decl r.1), .d (.agg [.str r.2.1.S, .int .i64 r.2.1.At, .int .i64 r.2.1.Err]), .d (.int .i64 r.2.2)]) [] := by
  refine LJ.Spec.code Try.func33 rfl 119 rfl rfl [] rfl fun w0 F0 S0 B0 => ?_
  unfold ref08_Read at H
  refine WC.seq ?_
  refine WC.region ?_
  refine WL.eff 101 tt_ok et_ok eg0 rfl rfl rfl trivial ?_
  refine WL.run 1 tt_ok sg0 rfl rfl trivial ?_
  refine WL.alloc 103 tt_ok rfl rfl rfl ?_
  refine WL.run 1 tt_ok sg0 rfl rfl trivial ?_
  refine WL.nil ?_
  refine QT.n ?_
  refine WC.seq ?_
  refine WC.region ?_
  refine WL.run 1 tt_ok sg0 rfl rfl trivial ?_
  obtain ⟨x1, hx1, H⟩ := of_bind H
  refine WL.call [] (ref08_num_0 _ hx1) ref08_num_f rfl rfl trivial rfl rfl rfl ?_
  refine WL.run 3 tt_ok sg0 rfl rfl trivial ?_
  refine WL.alloc 106 tt_ok rfl rfl rfl ?_
  refine WL.run 1 tt_ok sg0 rfl rfl trivial ?_
  refine WL.eff 0 tt_ok et_ok eg0 rfl rfl rfl trivial ?_
  refine WL.nil ?_
  refine QT.n ?_
  refine WC.seq ?_
  refine WC.seq ?_
  refine WC.region ?_
  refine WL.run 3 tt_ok sg0 rfl rfl trivial ?_
  refine WL.nil ?_
  refine QT.n ?_
  refine WC.cond rfl (fun h2 => ?_) (fun h2 => ?_)
  · replace H := of_t H h2
    refine WC.seq ?_
    refine WC.heldP (.one 0 true (.one 1 true (.one 2 true (.one 3 true (.one 4 false (.one 5 true .done)))))) [101, 103, 106] [101, 106] rfl (by kernel_rfl) rfl (by kernel_rfl) rfl rfl (fun _ h => h) rfl rfl rfl (fun _ _ _ h => h) fun FK NK wK K => ?_
    refine WH.run 4 tt_ok rfl rfl rfl rfl trivial ?_
    refine WH.eff 0 tt_ok et_ok rfl rfl rfl rfl trivial rfl rfl ?_
    refine WH.run 1 tt_ok rfl rfl rfl rfl trivial ?_
    refine WH.nil rfl ?_
    refine QT.n ?_
    refine WC.nilT 2 enc_api_Decl rfl ?_
    refine WC.ret ?_
    refine QT.r ?_
    cases H
    exact Ends.autoC tt_ok rfl rfl rfl trivial
  replace H := of_f H h2
  refine WC.skip ?_
  refine QT.n ?_
  refine WC.seq ?_
  refine WC.seq ?_
  refine WC.region ?_
  refine WL.run 2 tt_ok sg0 rfl rfl trivial ?_
  refine WL.nil ?_
  refine QT.n ?_
  refine WC.cond rfl (fun h3 => ?_) (fun h3 => ?_)
  · replace H := of_t H h3
    refine WC.seq ?_
    refine WC.heldP (.one 0 true (.one 1 true (.one 2 false (.one 3 true .done)))) [101, 103, 106] [101, 106] rfl (by kernel_rfl) rfl (by kernel_rfl) rfl rfl (fun _ h => h) rfl rfl rfl (fun _ _ _ h => h) fun FK NK wK K => ?_
    refine WH.run 2 tt_ok rfl rfl rfl rfl trivial ?_
    refine WH.eff 0 tt_ok et_ok rfl rfl rfl rfl trivial rfl rfl ?_
    refine WH.run 1 tt_ok rfl rfl rfl rfl trivial ?_
    refine WH.nil rfl ?_
    refine QT.n ?_
    refine WC.nilT 2 enc_api_Decl rfl ?_
    refine WC.ret ?_
    refine QT.r ?_
    cases H
    exact Ends.autoC tt_ok rfl rfl rfl trivial
  replace H := of_f H h3
  refine WC.skip ?_
  refine QT.n ?_
  refine WC.seq ?_
  refine WC.region ?_
  refine WL.eff 134 tt_ok et_ok eg0 rfl rfl rfl trivial ?_
  refine WL.run 1 tt_ok sg0 rfl rfl trivial ?_
  refine WL.nil ?_
  refine QT.n ?_
  refine WC.seq ?_
  refine WC.seq ?_
  refine WC.region ?_
  refine WL.run 1 tt_ok sg0 rfl rfl trivial ?_
  refine WL.nil ?_
  refine QT.n ?_
  refine WC.block ?_
  refine WC.loop (ι := {x : Nat × (Int × ByteArray × Int × Int × (List T_api_Decl)) // ref08_Read_l5 x1 x.1 x.2 = some r}) (fun x => [(3, .ptr 103 0), (5, .d (.int .i64 x1.1)), (6, .ptr 106 0), (7, .own 134), (8, .d (.int .i64 x.1.2.1))]) (fun x => [(103, .box 65 [.d (.str ByteArray.empty), .d (.int .i64 0), .d (.int .i64 0)]), (106, .box 65 [.d (.str x.1.2.2.1), .d (.int .i64 x.1.2.2.2.1), .d (.int .i64 x.1.2.2.2.2.1)]), (134, .row 45 3 (x.1.2.2.2.2.2.map enc_api_Decl))]) (fun x => x.1.1) ⟨(fuel, (0, x1.2.S, x1.2.At, x1.2.Err, ([] : List T_api_Decl))), H⟩ (Less.mk' ⟨rfl, rfl, rfl, rfl, rfl, trivial⟩ ⟨rfl, rfl, rfl, trivial⟩) fun x => ?_
  obtain ⟨⟨k5, s4⟩, H⟩ := x
  rcases k5 with _ | k5
  · exact of_none H
  rw [ref08_Read_l5] at H
  refine WC.seq ?_
  refine WC.seq ?_
  refine WC.region ?_
  refine WL.run 3 tt_ok sg0 rfl rfl trivial ?_
  refine WL.nil ?_
  refine QT.n ?_
  refine WC.cond rfl (fun h6 => ?_) (fun h6 => ?_)
  · replace H := of_t H h6
    refine WC.skip ?_
    refine QT.n ?_
    obtain ⟨K7, hK7, H⟩ := of_withK H
    refine WC.cut (fun E m => ∃ s8 : ByteArray × Int × Int × (List T_api_Decl), K7 s8 = some r ∧ LessW E m [(3, .ptr 103 0), (5, .d (.int .i64 x1.1)), (6, .ptr 106 0), (7, .own 134), (8, .d (.int .i64 s4.1))] [(103, .box 65 [.d (.str ByteArray.empty), .d (.int .i64 0), .d (.int .i64 0)]), (106, .box 65 [.d (.str s8.1), .d (.int .i64 s8.2.1), .d (.int .i64 s8.2.2.1)]), (134, .row 45 3 (s8.2.2.2.map enc_api_Decl))]) ?_ ?_
    · refine WC.block ?_
      refine WC.seq ?_
      refine WC.region ?_
      refine WL.run 1 tt_ok sg0 rfl rfl trivial ?_
      obtain ⟨x9, hx9, H⟩ := of_bind H
      refine WL.call [] (ref01_Byte_0 _ hx9) ref01_Byte_f rfl rfl trivial rfl rfl rfl ?_
      refine WL.run 3 tt_ok sg0 rfl rfl trivial ?_
      refine WL.alloc 110 tt_ok rfl rfl rfl ?_
      refine WL.run 1 tt_ok sg0 rfl rfl trivial ?_
      refine WL.eff 0 tt_ok et_ok eg0 rfl rfl rfl trivial ?_
      refine WL.nil ?_
      refine QT.n ?_
      refine WC.seq ?_
      refine WC.seq ?_
      refine WC.region ?_
      refine WL.run 4 tt_ok sg0 rfl rfl trivial ?_
      refine WL.sect 3 3 true tt_ok sg0 rfl rfl (fun _ => trivial) ?_
      refine WL.sect 2 6 false tt_ok sg0 rfl rfl (fun _ => trivial) ?_
      refine WL.sect 1 3 true tt_ok sg0 rfl rfl (fun hb => ⟨by first | exact id | exact ⟨hb, fun h => by rw [hb, h]; rfl⟩ | exact ⟨hb, id⟩ | exact fun h => by rw [hb, h]; rfl | exact fun h => by rw [h]; rfl | simp_all, trivial⟩) ?_
      refine WL.run 1 tt_ok sg0 rfl rfl ⟨by first | exact id | exact fun h => by rw [h]; rfl | simp_all, trivial⟩ ?_
      refine WL.nil ?_
      refine QT.n ?_
      refine WC.cond rfl (fun h10 => ?_) (fun h10 => ?_)
      · replace H := of_t H h10
        refine WC.seq ?_
        refine WC.heldP (.one 0 true (.one 1 true (.one 2 false (.one 3 true .done)))) [103, 106, 110] [106, 110] rfl (by kernel_rfl) rfl (by kernel_rfl) rfl rfl (fun _ h => h) rfl rfl rfl (fun _ _ _ h => h) fun FK NK wK K => ?_
        refine WH.run 2 tt_ok rfl rfl rfl rfl trivial ?_
        refine WH.eff 0 tt_ok et_ok rfl rfl rfl rfl trivial rfl rfl ?_
        refine WH.run 1 tt_ok rfl rfl rfl rfl trivial ?_
        refine WH.nil rfl ?_
        refine QT.n ?_
        refine WC.nilT 2 enc_api_Decl rfl ?_
        refine WC.ret ?_
        refine QT.r (QB.r (QT.r (QT.r (QB.r (QT.r ?_)))))
        cases H
        exact Ends.autoC tt_ok rfl rfl rfl trivial
      replace H := of_f H h10
      refine WC.skip ?_
      refine QT.n ?_
      refine WC.seq ?_
      refine WC.region ?_
      refine WL.run 2 tt_ok sg0 rfl rfl trivial ?_
      refine WL.alloc 111 tt_ok rfl rfl rfl ?_
      refine WL.eff 0 tt_ok et_ok eg0 rfl rfl rfl trivial ?_
      refine WL.nil ?_
      refine QT.n ?_
      refine WC.seq ?_
      refine WC.seq ?_
      refine WC.region ?_
      refine WL.run 3 tt_ok sg0 rfl rfl trivial ?_
      refine WL.sect 2 2 false tt_ok sg0 rfl rfl (fun _ => trivial) ?_
      refine WL.run 1 tt_ok sg0 rfl rfl ⟨by first | exact id | exact fun h => by rw [h]; rfl | simp_all, trivial⟩ ?_
      refine WL.nil ?_
      refine QT.n ?_
      refine WC.cond rfl (fun h11 => ?_) (fun h11 => ?_)
      · replace H := of_t H h11
        refine WC.seq ?_
        refine WC.region ?_
        refine WL.run 1 tt_ok sg0 rfl rfl trivial ?_
        obtain ⟨x12, hx12, H⟩ := of_bind H
        refine WL.call [] (ref08_num_0 _ hx12) ref08_num_f rfl rfl trivial rfl rfl rfl ?_
        refine WL.run 3 tt_ok sg0 rfl rfl trivial ?_
        refine WL.alloc 113 tt_ok rfl rfl rfl ?_
        refine WL.run 1 tt_ok sg0 rfl rfl trivial ?_
        refine WL.eff 0 tt_ok et_ok eg0 rfl rfl rfl trivial ?_
        refine WL.nil ?_
        refine QT.n ?_
        refine WC.heldP (.one 0 true (.one 1 true (.one 2 true (.one 3 false (.one 4 false .done))))) [103, 106, 110, 111, 113] [103, 106, 113] rfl (by kernel_rfl) rfl (by kernel_rfl) rfl rfl (fun _ h => h) rfl rfl rfl (fun _ _ _ h => h) fun FK NK wK K => ?_
        refine WH.run 3 tt_ok rfl rfl rfl rfl trivial ?_
        refine WH.eff 0 tt_ok et_ok rfl rfl rfl rfl trivial rfl rfl ?_
        refine WH.eff 0 tt_ok et_ok rfl rfl rfl rfl trivial rfl rfl ?_
        refine WH.nil rfl ?_
        refine QT.n ?_
        refine WC.seq ?_
        refine WC.seq ?_
        refine WC.region ?_
        refine WL.run 2 tt_ok sg0 rfl rfl trivial ?_
        refine WL.nil ?_
        refine QT.n ?_
        refine WC.cond rfl (fun h13 => ?_) (fun h13 => ?_)
        · replace H := of_t H h13
          refine WC.seq ?_
          refine WC.region ?_
          refine WL.run 1 tt_ok sg0 rfl rfl trivial ?_
          obtain ⟨x14, hx14, H⟩ := of_bind H
          refine WL.call [] (ref01_Signed_0 _ hx14) ref01_Signed_f rfl rfl trivial rfl rfl rfl ?_
          refine WL.run 3 tt_ok sg0 rfl rfl trivial ?_
          refine WL.alloc 115 tt_ok rfl rfl rfl ?_
          refine WL.run 1 tt_ok sg0 rfl rfl trivial ?_
          refine WL.eff 0 tt_ok et_ok eg0 rfl rfl rfl trivial ?_
          refine WL.nil ?_
          refine QT.n ?_
          refine WC.heldP (.one 0 true (.one 1 true (.one 2 true (.one 3 false (.one 4 false .done))))) [103, 106, 110, 111, 113, 115] [103, 106, 113, 115] rfl (by kernel_rfl) rfl (by kernel_rfl) rfl rfl (fun _ h => h) rfl rfl rfl (fun _ _ _ h => h) fun FK NK wK K => ?_
          refine WH.run 3 tt_ok rfl rfl rfl rfl trivial ?_
          refine WH.eff 0 tt_ok et_ok rfl rfl rfl rfl trivial rfl rfl ?_
          refine WH.eff 0 tt_ok et_ok rfl rfl rfl rfl trivial rfl rfl ?_
          refine WH.nil rfl ?_
          refine QT.n ?_
          refine WC.seq ?_
          refine WC.seq ?_
          refine WC.region ?_
          refine WL.run 3 tt_ok sg0 rfl rfl trivial ?_
          refine WL.sect 2 2 false tt_ok sg0 rfl rfl (fun _ => trivial) ?_
          refine WL.run 1 tt_ok sg0 rfl rfl ⟨by first | exact id | exact fun h => by rw [h]; rfl | simp_all, trivial⟩ ?_
          refine WL.nil ?_
          refine QT.n ?_
          refine WC.cond rfl (fun h15 => ?_) (fun h15 => ?_)
          · replace H := of_t H h15
            refine WC.seq ?_
            refine WC.region ?_
            refine WL.run 1 tt_ok sg0 rfl rfl trivial ?_
            obtain ⟨x16, hx16, H⟩ := of_bind H
            refine WL.call [] (ref08_num_0 _ hx16) ref08_num_f rfl rfl trivial rfl rfl rfl ?_
            refine WL.run 3 tt_ok sg0 rfl rfl trivial ?_
            refine WL.alloc 117 tt_ok rfl rfl rfl ?_
            refine WL.run 1 tt_ok sg0 rfl rfl trivial ?_
            refine WL.eff 0 tt_ok et_ok eg0 rfl rfl rfl trivial ?_
            refine WL.nil ?_
            refine QT.n ?_
            refine WC.heldP (.one 0 true (.one 1 true (.one 2 true (.one 3 false (.one 4 false .done))))) [103, 106, 110, 111, 113, 115, 117] [103, 106, 113, 115, 117] rfl (by kernel_rfl) rfl (by kernel_rfl) rfl rfl (fun _ h => h) rfl rfl rfl (fun _ _ _ h => h) fun FK NK wK K => ?_
            refine WH.run 3 tt_ok rfl rfl rfl rfl trivial ?_
            refine WH.eff 0 tt_ok et_ok rfl rfl rfl rfl trivial rfl rfl ?_
            refine WH.eff 0 tt_ok et_ok rfl rfl rfl rfl trivial rfl rfl ?_
            refine WH.nil rfl ?_
            refine QT.n ?_
            refine WC.seq ?_
            refine WC.seq ?_
            refine WC.region ?_
            refine WL.run 3 tt_ok sg0 rfl rfl trivial ?_
            refine WL.nil ?_
            refine QT.n ?_
            refine WC.cond rfl (fun h17 => ?_) (fun h17 => ?_)
            · replace H := of_t H h17
              refine WC.seq ?_
              refine WC.heldP (.one 0 true (.one 1 true (.one 2 true (.one 3 true (.one 4 false (.one 5 true .done)))))) [103, 106, 110, 111, 113, 115, 117] [106, 110, 111, 113, 115, 117] rfl (by kernel_rfl) rfl (by kernel_rfl) rfl rfl (fun _ h => h) rfl rfl rfl (fun _ _ _ h => h) fun FK NK wK K => ?_
              refine WH.run 4 tt_ok rfl rfl rfl rfl trivial ?_
              refine WH.eff 0 tt_ok et_ok rfl rfl rfl rfl trivial rfl rfl ?_
              refine WH.run 1 tt_ok rfl rfl rfl rfl trivial ?_
              refine WH.nil rfl ?_
              refine QT.n ?_
              refine WC.nilT 2 enc_api_Decl rfl ?_
              refine WC.ret ?_
              refine QT.r (QB.r (QT.r (QT.r (QB.r (QT.r ?_)))))
              cases H
              exact Ends.autoC tt_ok rfl rfl rfl trivial
            replace H := of_f H h17
            refine WC.skip ?_
            refine QT.n ?_
            refine WC.heldP (.one 0 true (.one 1 true (.one 4 true (.one 2 false (.one 3 false (.one 5 true (.one 6 false .done))))))) [103, 106, 110, 111, 113, 115, 117] [103, 110, 111, 113, 115, 117] rfl (by kernel_rfl) rfl (by kernel_rfl) rfl rfl (fun _ h => h) rfl rfl rfl (fun _ _ _ h => h) fun FK NK wK K => ?_
            refine WH.mv rfl rfl rfl rfl rfl rfl rfl rfl rfl ?_
            refine WH.run 2 tt_ok rfl rfl rfl rfl trivial ?_
            refine WH.eff 205 tt_ok et_ok rfl rfl rfl rfl trivial rfl rfl ?_
            refine WH.freezeT 205 enc_api_Decl ([(⟨x9.1, x14.1, x16.1⟩ : T_api_Decl)] : List T_api_Decl) rfl rfl rfl rfl ?_
            obtain ⟨g18, H⟩ := of_need H
            refine WH.appT enc_api_Decl s4.2.2.2.2 ([(⟨x9.1, x14.1, x16.1⟩ : T_api_Decl)] : List T_api_Decl) tt_ok et_ok rfl rfl (fun _ => rfl) (fun _ => rfl) rfl rfl rfl rfl rfl (nCap_ok g18) rfl rfl rfl rfl rfl rfl rfl ?_
            refine WH.mv rfl rfl rfl rfl rfl rfl rfl rfl rfl ?_
            refine WH.eff 0 tt_ok et_ok rfl rfl rfl rfl trivial rfl rfl ?_
            refine WH.nil rfl ?_
            refine QB.n (QT.n ?_)
            exact ⟨(x16.2.S, x16.2.At, x16.2.Err, s4.2.2.2.2 ++ ([(⟨x9.1, x14.1, x16.1⟩ : T_api_Decl)] : List T_api_Decl)), H, LessW.mk' ⟨AVle.of rfl, AVle.of rfl, AVle.of rfl, AVle.of rfl, AVle.of rfl, trivial⟩ ⟨rfl, rfl, rfl, trivial⟩⟩
          replace H := of_f H h15
          refine WC.skip ?_
          refine QT.n ?_
          refine WC.seq ?_
          refine WC.seq ?_
          refine WC.region ?_
          refine WL.run 3 tt_ok sg0 rfl rfl trivial ?_
          refine WL.nil ?_
          refine QT.n ?_
          refine WC.cond rfl (fun h19 => ?_) (fun h19 => ?_)
          · replace H := of_t H h19
            refine WC.seq ?_
            refine WC.heldP (.one 0 true (.one 1 true (.one 2 true (.one 3 true (.one 4 false (.one 5 true .done)))))) [103, 106, 110, 111, 113, 115] [106, 110, 111, 113, 115] rfl (by kernel_rfl) rfl (by kernel_rfl) rfl rfl (fun _ h => h) rfl rfl rfl (fun _ _ _ h => h) fun FK NK wK K => ?_
            refine WH.run 4 tt_ok rfl rfl rfl rfl trivial ?_
            refine WH.eff 0 tt_ok et_ok rfl rfl rfl rfl trivial rfl rfl ?_
            refine WH.run 1 tt_ok rfl rfl rfl rfl trivial ?_
            refine WH.nil rfl ?_
            refine QT.n ?_
            refine WC.nilT 2 enc_api_Decl rfl ?_
            refine WC.ret ?_
            refine QT.r (QB.r (QT.r (QT.r (QB.r (QT.r ?_)))))
            cases H
            exact Ends.autoC tt_ok rfl rfl rfl trivial
          replace H := of_f H h19
          refine WC.skip ?_
          refine QT.n ?_
          refine WC.heldP (.one 0 true (.one 1 true (.one 4 true (.one 2 false (.one 3 false (.one 5 true (.one 6 false .done))))))) [103, 106, 110, 111, 113, 115] [103, 110, 111, 113, 115] rfl (by kernel_rfl) rfl (by kernel_rfl) rfl rfl (fun _ h => h) rfl rfl rfl (fun _ _ _ h => h) fun FK NK wK K => ?_
          refine WH.mv rfl rfl rfl rfl rfl rfl rfl rfl rfl ?_
          refine WH.run 2 tt_ok rfl rfl rfl rfl trivial ?_
          refine WH.eff 205 tt_ok et_ok rfl rfl rfl rfl trivial rfl rfl ?_
          refine WH.freezeT 205 enc_api_Decl ([(⟨x9.1, x14.1, 0⟩ : T_api_Decl)] : List T_api_Decl) rfl rfl rfl rfl ?_
          obtain ⟨g20, H⟩ := of_need H
          refine WH.appT enc_api_Decl s4.2.2.2.2 ([(⟨x9.1, x14.1, 0⟩ : T_api_Decl)] : List T_api_Decl) tt_ok et_ok rfl rfl (fun _ => rfl) (fun _ => rfl) rfl rfl rfl rfl rfl (nCap_ok g20) rfl rfl rfl rfl rfl rfl rfl ?_
          refine WH.mv rfl rfl rfl rfl rfl rfl rfl rfl rfl ?_
          refine WH.eff 0 tt_ok et_ok rfl rfl rfl rfl trivial rfl rfl ?_
          refine WH.nil rfl ?_
          refine QB.n (QT.n ?_)
          exact ⟨(x14.2.S, x14.2.At, x14.2.Err, s4.2.2.2.2 ++ ([(⟨x9.1, x14.1, 0⟩ : T_api_Decl)] : List T_api_Decl)), H, LessW.mk' ⟨AVle.of rfl, AVle.of rfl, AVle.of rfl, AVle.of rfl, AVle.of rfl, trivial⟩ ⟨rfl, rfl, rfl, trivial⟩⟩
        replace H := of_f H h13
        refine WC.skip ?_
        refine QT.n ?_
        refine WC.seq ?_
        refine WC.seq ?_
        refine WC.region ?_
        refine WL.run 3 tt_ok sg0 rfl rfl trivial ?_
        refine WL.sect 2 2 false tt_ok sg0 rfl rfl (fun _ => trivial) ?_
        refine WL.run 1 tt_ok sg0 rfl rfl ⟨by first | exact id | exact fun h => by rw [h]; rfl | simp_all, trivial⟩ ?_
        refine WL.nil ?_
        refine QT.n ?_
        refine WC.cond rfl (fun h21 => ?_) (fun h21 => ?_)
        · replace H := of_t H h21
          refine WC.seq ?_
          refine WC.region ?_
          refine WL.run 1 tt_ok sg0 rfl rfl trivial ?_
          obtain ⟨x22, hx22, H⟩ := of_bind H
          refine WL.call [] (ref08_num_0 _ hx22) ref08_num_f rfl rfl trivial rfl rfl rfl ?_
          refine WL.run 3 tt_ok sg0 rfl rfl trivial ?_
          refine WL.alloc 117 tt_ok rfl rfl rfl ?_
          refine WL.run 1 tt_ok sg0 rfl rfl trivial ?_
          refine WL.eff 0 tt_ok et_ok eg0 rfl rfl rfl trivial ?_
          refine WL.nil ?_
          refine QT.n ?_
          refine WC.heldP (.one 0 true (.one 1 true (.one 2 true (.one 3 false (.one 4 false .done))))) [103, 106, 110, 111, 113, 117] [103, 106, 113, 117] rfl (by kernel_rfl) rfl (by kernel_rfl) rfl rfl (fun _ h => h) rfl rfl rfl (fun _ _ _ h => h) fun FK NK wK K => ?_
          refine WH.run 3 tt_ok rfl rfl rfl rfl trivial ?_
          refine WH.eff 0 tt_ok et_ok rfl rfl rfl rfl trivial rfl rfl ?_
          refine WH.eff 0 tt_ok et_ok rfl rfl rfl rfl trivial rfl rfl ?_
          refine WH.nil rfl ?_
          refine QT.n ?_
          refine WC.seq ?_
          refine WC.seq ?_
          refine WC.region ?_
          refine WL.run 3 tt_ok sg0 rfl rfl trivial ?_
          refine WL.nil ?_
          refine QT.n ?_
          refine WC.cond rfl (fun h23 => ?_) (fun h23 => ?_)
          · replace H := of_t H h23
            refine WC.seq ?_
            refine WC.heldP (.one 0 true (.one 1 true (.one 2 true (.one 3 true (.one 4 false (.one 5 true .done)))))) [103, 106, 110, 111, 113, 117] [106, 110, 111, 113, 117] rfl (by kernel_rfl) rfl (by kernel_rfl) rfl rfl (fun _ h => h) rfl rfl rfl (fun _ _ _ h => h) fun FK NK wK K => ?_
            refine WH.run 4 tt_ok rfl rfl rfl rfl trivial ?_
            refine WH.eff 0 tt_ok et_ok rfl rfl rfl rfl trivial rfl rfl ?_
            refine WH.run 1 tt_ok rfl rfl rfl rfl trivial ?_
            refine WH.nil rfl ?_
            refine QT.n ?_
            refine WC.nilT 2 enc_api_Decl rfl ?_
            refine WC.ret ?_
            refine QT.r (QB.r (QT.r (QT.r (QB.r (QT.r ?_)))))
            cases H
            exact Ends.autoC tt_ok rfl rfl rfl trivial
          replace H := of_f H h23
          refine WC.skip ?_
          refine QT.n ?_
          refine WC.heldP (.one 0 true (.one 1 true (.one 4 true (.one 2 false (.one 3 false (.one 5 true (.one 6 false .done))))))) [103, 106, 110, 111, 113, 117] [103, 110, 111, 113, 117] rfl (by kernel_rfl) rfl (by kernel_rfl) rfl rfl (fun _ h => h) rfl rfl rfl (fun _ _ _ h => h) fun FK NK wK K => ?_
          refine WH.mv rfl rfl rfl rfl rfl rfl rfl rfl rfl ?_
          refine WH.run 2 tt_ok rfl rfl rfl rfl trivial ?_
          refine WH.eff 205 tt_ok et_ok rfl rfl rfl rfl trivial rfl rfl ?_
          refine WH.freezeT 205 enc_api_Decl ([(⟨x9.1, x12.1, x22.1⟩ : T_api_Decl)] : List T_api_Decl) rfl rfl rfl rfl ?_
          obtain ⟨g24, H⟩ := of_need H
          refine WH.appT enc_api_Decl s4.2.2.2.2 ([(⟨x9.1, x12.1, x22.1⟩ : T_api_Decl)] : List T_api_Decl) tt_ok et_ok rfl rfl (fun _ => rfl) (fun _ => rfl) rfl rfl rfl rfl rfl (nCap_ok g24) rfl rfl rfl rfl rfl rfl rfl ?_
          refine WH.mv rfl rfl rfl rfl rfl rfl rfl rfl rfl ?_
          refine WH.eff 0 tt_ok et_ok rfl rfl rfl rfl trivial rfl rfl ?_
          refine WH.nil rfl ?_
          refine QB.n (QT.n ?_)
          exact ⟨(x22.2.S, x22.2.At, x22.2.Err, s4.2.2.2.2 ++ ([(⟨x9.1, x12.1, x22.1⟩ : T_api_Decl)] : List T_api_Decl)), H, LessW.mk' ⟨AVle.of rfl, AVle.of rfl, AVle.of rfl, AVle.of rfl, AVle.of rfl, trivial⟩ ⟨rfl, rfl, rfl, trivial⟩⟩
        replace H := of_f H h21
        refine WC.skip ?_
        refine QT.n ?_
        refine WC.seq ?_
        refine WC.seq ?_
        refine WC.region ?_
        refine WL.run 3 tt_ok sg0 rfl rfl trivial ?_
        refine WL.nil ?_
        refine QT.n ?_
        refine WC.cond rfl (fun h25 => ?_) (fun h25 => ?_)
        · replace H := of_t H h25
          refine WC.seq ?_
          refine WC.heldP (.one 0 true (.one 1 true (.one 2 true (.one 3 true (.one 4 false (.one 5 true .done)))))) [103, 106, 110, 111, 113] [106, 110, 111, 113] rfl (by kernel_rfl) rfl (by kernel_rfl) rfl rfl (fun _ h => h) rfl rfl rfl (fun _ _ _ h => h) fun FK NK wK K => ?_
          refine WH.run 4 tt_ok rfl rfl rfl rfl trivial ?_
          refine WH.eff 0 tt_ok et_ok rfl rfl rfl rfl trivial rfl rfl ?_
          refine WH.run 1 tt_ok rfl rfl rfl rfl trivial ?_
          refine WH.nil rfl ?_
          refine QT.n ?_
          refine WC.nilT 2 enc_api_Decl rfl ?_
          refine WC.ret ?_
          refine QT.r (QB.r (QT.r (QT.r (QB.r (QT.r ?_)))))
          cases H
          exact Ends.autoC tt_ok rfl rfl rfl trivial
        replace H := of_f H h25
        refine WC.skip ?_
        refine QT.n ?_
        refine WC.heldP (.one 0 true (.one 1 true (.one 4 true (.one 2 false (.one 3 false (.one 5 true (.one 6 false .done))))))) [103, 106, 110, 111, 113] [103, 110, 111, 113] rfl (by kernel_rfl) rfl (by kernel_rfl) rfl rfl (fun _ h => h) rfl rfl rfl (fun _ _ _ h => h) fun FK NK wK K => ?_
        refine WH.mv rfl rfl rfl rfl rfl rfl rfl rfl rfl ?_
        refine WH.run 2 tt_ok rfl rfl rfl rfl trivial ?_
        refine WH.eff 205 tt_ok et_ok rfl rfl rfl rfl trivial rfl rfl ?_
        refine WH.freezeT 205 enc_api_Decl ([(⟨x9.1, x12.1, 0⟩ : T_api_Decl)] : List T_api_Decl) rfl rfl rfl rfl ?_
        obtain ⟨g26, H⟩ := of_need H
        refine WH.appT enc_api_Decl s4.2.2.2.2 ([(⟨x9.1, x12.1, 0⟩ : T_api_Decl)] : List T_api_Decl) tt_ok et_ok rfl rfl (fun _ => rfl) (fun _ => rfl) rfl rfl rfl rfl rfl (nCap_ok g26) rfl rfl rfl rfl rfl rfl rfl ?_
        refine WH.mv rfl rfl rfl rfl rfl rfl rfl rfl rfl ?_
        refine WH.eff 0 tt_ok et_ok rfl rfl rfl rfl trivial rfl rfl ?_
        refine WH.nil rfl ?_
        refine QB.n (QT.n ?_)
        exact ⟨(x12.2.S, x12.2.At, x12.2.Err, s4.2.2.2.2 ++ ([(⟨x9.1, x12.1, 0⟩ : T_api_Decl)] : List T_api_Decl)), H, LessW.mk' ⟨AVle.of rfl, AVle.of rfl, AVle.of rfl, AVle.of rfl, AVle.of rfl, trivial⟩ ⟨rfl, rfl, rfl, trivial⟩⟩
      replace H := of_f H h11
      refine WC.skip ?_
      refine QT.n ?_
      refine WC.seq ?_
      refine WC.seq ?_
      refine WC.region ?_
      refine WL.run 2 tt_ok sg0 rfl rfl trivial ?_
      refine WL.nil ?_
      refine QT.n ?_
      refine WC.cond rfl (fun h27 => ?_) (fun h27 => ?_)
      · replace H := of_t H h27
        refine WC.seq ?_
        refine WC.region ?_
        refine WL.run 1 tt_ok sg0 rfl rfl trivial ?_
        obtain ⟨x28, hx28, H⟩ := of_bind H
        refine WL.call [] (ref01_Signed_0 _ hx28) ref01_Signed_f rfl rfl trivial rfl rfl rfl ?_
        refine WL.run 3 tt_ok sg0 rfl rfl trivial ?_
        refine WL.alloc 115 tt_ok rfl rfl rfl ?_
        refine WL.run 1 tt_ok sg0 rfl rfl trivial ?_
        refine WL.eff 0 tt_ok et_ok eg0 rfl rfl rfl trivial ?_
        refine WL.nil ?_
        refine QT.n ?_
        refine WC.heldP (.one 0 true (.one 1 true (.one 2 true (.one 3 false (.one 4 false .done))))) [103, 106, 110, 111, 115] [103, 106, 115] rfl (by kernel_rfl) rfl (by kernel_rfl) rfl rfl (fun _ h => h) rfl rfl rfl (fun _ _ _ h => h) fun FK NK wK K => ?_
        refine WH.run 3 tt_ok rfl rfl rfl rfl trivial ?_
        refine WH.eff 0 tt_ok et_ok rfl rfl rfl rfl trivial rfl rfl ?_
        refine WH.eff 0 tt_ok et_ok rfl rfl rfl rfl trivial rfl rfl ?_
        refine WH.nil rfl ?_
        refine QT.n ?_
        refine WC.seq ?_
        refine WC.seq ?_
        refine WC.region ?_
        refine WL.run 3 tt_ok sg0 rfl rfl trivial ?_
        refine WL.sect 2 2 false tt_ok sg0 rfl rfl (fun _ => trivial) ?_
        refine WL.run 1 tt_ok sg0 rfl rfl ⟨by first | exact id | exact fun h => by rw [h]; rfl | simp_all, trivial⟩ ?_
        refine WL.nil ?_
        refine QT.n ?_
        refine WC.cond rfl (fun h29 => ?_) (fun h29 => ?_)
        · replace H := of_t H h29
          refine WC.seq ?_
          refine WC.region ?_
          refine WL.run 1 tt_ok sg0 rfl rfl trivial ?_
          obtain ⟨x30, hx30, H⟩ := of_bind H
          refine WL.call [] (ref08_num_0 _ hx30) ref08_num_f rfl rfl trivial rfl rfl rfl ?_
          refine WL.run 3 tt_ok sg0 rfl rfl trivial ?_
          refine WL.alloc 117 tt_ok rfl rfl rfl ?_
          refine WL.run 1 tt_ok sg0 rfl rfl trivial ?_
          refine WL.eff 0 tt_ok et_ok eg0 rfl rfl rfl trivial ?_
          refine WL.nil ?_
          refine QT.n ?_
          refine WC.heldP (.one 0 true (.one 1 true (.one 2 true (.one 3 false (.one 4 false .done))))) [103, 106, 110, 111, 115, 117] [103, 106, 115, 117] rfl (by kernel_rfl) rfl (by kernel_rfl) rfl rfl (fun _ h => h) rfl rfl rfl (fun _ _ _ h => h) fun FK NK wK K => ?_
          refine WH.run 3 tt_ok rfl rfl rfl rfl trivial ?_
          refine WH.eff 0 tt_ok et_ok rfl rfl rfl rfl trivial rfl rfl ?_
          refine WH.eff 0 tt_ok et_ok rfl rfl rfl rfl trivial rfl rfl ?_
          refine WH.nil rfl ?_
          refine QT.n ?_
          refine WC.seq ?_
          refine WC.seq ?_
          refine WC.region ?_
          refine WL.run 3 tt_ok sg0 rfl rfl trivial ?_
          refine WL.nil ?_
          refine QT.n ?_
          refine WC.cond rfl (fun h31 => ?_) (fun h31 => ?_)
          · replace H := of_t H h31
            refine WC.seq ?_
            refine WC.heldP (.one 0 true (.one 1 true (.one 2 true (.one 3 true (.one 4 false (.one 5 true .done)))))) [103, 106, 110, 111, 115, 117] [106, 110, 111, 115, 117] rfl (by kernel_rfl) rfl (by kernel_rfl) rfl rfl (fun _ h => h) rfl rfl rfl (fun _ _ _ h => h) fun FK NK wK K => ?_
            refine WH.run 4 tt_ok rfl rfl rfl rfl trivial ?_
            refine WH.eff 0 tt_ok et_ok rfl rfl rfl rfl trivial rfl rfl ?_
            refine WH.run 1 tt_ok rfl rfl rfl rfl trivial ?_
            refine WH.nil rfl ?_
            refine QT.n ?_
            refine WC.nilT 2 enc_api_Decl rfl ?_
            refine WC.ret ?_
            refine QT.r (QB.r (QT.r (QT.r (QB.r (QT.r ?_)))))
            cases H
            exact Ends.autoC tt_ok rfl rfl rfl trivial
          replace H := of_f H h31
          refine WC.skip ?_
          refine QT.n ?_
          refine WC.heldP (.one 0 true (.one 1 true (.one 4 true (.one 2 false (.one 3 false (.one 5 true (.one 6 false .done))))))) [103, 106, 110, 111, 115, 117] [103, 110, 111, 115, 117] rfl (by kernel_rfl) rfl (by kernel_rfl) rfl rfl (fun _ h => h) rfl rfl rfl (fun _ _ _ h => h) fun FK NK wK K => ?_
          refine WH.mv rfl rfl rfl rfl rfl rfl rfl rfl rfl ?_
          refine WH.run 2 tt_ok rfl rfl rfl rfl trivial ?_
          refine WH.eff 205 tt_ok et_ok rfl rfl rfl rfl trivial rfl rfl ?_
          refine WH.freezeT 205 enc_api_Decl ([(⟨x9.1, x28.1, x30.1⟩ : T_api_Decl)] : List T_api_Decl) rfl rfl rfl rfl ?_
          obtain ⟨g32, H⟩ := of_need H
          refine WH.appT enc_api_Decl s4.2.2.2.2 ([(⟨x9.1, x28.1, x30.1⟩ : T_api_Decl)] : List T_api_Decl) tt_ok et_ok rfl rfl (fun _ => rfl) (fun _ => rfl) rfl rfl rfl rfl rfl (nCap_ok g32) rfl rfl rfl rfl rfl rfl rfl ?_
          refine WH.mv rfl rfl rfl rfl rfl rfl rfl rfl rfl ?_
          refine WH.eff 0 tt_ok et_ok rfl rfl rfl rfl trivial rfl rfl ?_
          refine WH.nil rfl ?_
          refine QB.n (QT.n ?_)
          exact ⟨(x30.2.S, x30.2.At, x30.2.Err, s4.2.2.2.2 ++ ([(⟨x9.1, x28.1, x30.1⟩ : T_api_Decl)] : List T_api_Decl)), H, LessW.mk' ⟨AVle.of rfl, AVle.of rfl, AVle.of rfl, AVle.of rfl, AVle.of rfl, trivial⟩ ⟨rfl, rfl, rfl, trivial⟩⟩
        replace H := of_f H h29
        refine WC.skip ?_
        refine QT.n ?_
        refine WC.seq ?_
        refine WC.seq ?_
        refine WC.region ?_
        refine WL.run 3 tt_ok sg0 rfl rfl trivial ?_
        refine WL.nil ?_
        refine QT.n ?_
        refine WC.cond rfl (fun h33 => ?_) (fun h33 => ?_)
        · replace H := of_t H h33
          refine WC.seq ?_
          refine WC.heldP (.one 0 true (.one 1 true (.one 2 true (.one 3 true (.one 4 false (.one 5 true .done)))))) [103, 106, 110, 111, 115] [106, 110, 111, 115] rfl (by kernel_rfl) rfl (by kernel_rfl) rfl rfl (fun _ h => h) rfl rfl rfl (fun _ _ _ h => h) fun FK NK wK K => ?_
          refine WH.run 4 tt_ok rfl rfl rfl rfl trivial ?_
          refine WH.eff 0 tt_ok et_ok rfl rfl rfl rfl trivial rfl rfl ?_
          refine WH.run 1 tt_ok rfl rfl rfl rfl trivial ?_
          refine WH.nil rfl ?_
          refine QT.n ?_
          refine WC.nilT 2 enc_api_Decl rfl ?_
          refine WC.ret ?_
          refine QT.r (QB.r (QT.r (QT.r (QB.r (QT.r ?_)))))
          cases H
          exact Ends.autoC tt_ok rfl rfl rfl trivial
        replace H := of_f H h33
        refine WC.skip ?_
        refine QT.n ?_
        refine WC.heldP (.one 0 true (.one 1 true (.one 4 true (.one 2 false (.one 3 false (.one 5 true (.one 6 false .done))))))) [103, 106, 110, 111, 115] [103, 110, 111, 115] rfl (by kernel_rfl) rfl (by kernel_rfl) rfl rfl (fun _ h => h) rfl rfl rfl (fun _ _ _ h => h) fun FK NK wK K => ?_
        refine WH.mv rfl rfl rfl rfl rfl rfl rfl rfl rfl ?_
        refine WH.run 2 tt_ok rfl rfl rfl rfl trivial ?_
        refine WH.eff 205 tt_ok et_ok rfl rfl rfl rfl trivial rfl rfl ?_
        refine WH.freezeT 205 enc_api_Decl ([(⟨x9.1, x28.1, 0⟩ : T_api_Decl)] : List T_api_Decl) rfl rfl rfl rfl ?_
        obtain ⟨g34, H⟩ := of_need H
        refine WH.appT enc_api_Decl s4.2.2.2.2 ([(⟨x9.1, x28.1, 0⟩ : T_api_Decl)] : List T_api_Decl) tt_ok et_ok rfl rfl (fun _ => rfl) (fun _ => rfl) rfl rfl rfl rfl rfl (nCap_ok g34) rfl rfl rfl rfl rfl rfl rfl ?_
        refine WH.mv rfl rfl rfl rfl rfl rfl rfl rfl rfl ?_
        refine WH.eff 0 tt_ok et_ok rfl rfl rfl rfl trivial rfl rfl ?_
        refine WH.nil rfl ?_
        refine QB.n (QT.n ?_)
        exact ⟨(x28.2.S, x28.2.At, x28.2.Err, s4.2.2.2.2 ++ ([(⟨x9.1, x28.1, 0⟩ : T_api_Decl)] : List T_api_Decl)), H, LessW.mk' ⟨AVle.of rfl, AVle.of rfl, AVle.of rfl, AVle.of rfl, AVle.of rfl, trivial⟩ ⟨rfl, rfl, rfl, trivial⟩⟩
      replace H := of_f H h27
      refine WC.skip ?_
      refine QT.n ?_
      refine WC.seq ?_
      refine WC.seq ?_
      refine WC.region ?_
      refine WL.run 3 tt_ok sg0 rfl rfl trivial ?_
      refine WL.sect 2 2 false tt_ok sg0 rfl rfl (fun _ => trivial) ?_
      refine WL.run 1 tt_ok sg0 rfl rfl ⟨by first | exact id | exact fun h => by rw [h]; rfl | simp_all, trivial⟩ ?_
      refine WL.nil ?_
      refine QT.n ?_
      refine WC.cond rfl (fun h35 => ?_) (fun h35 => ?_)
      · replace H := of_t H h35
        refine WC.seq ?_
        refine WC.region ?_
        refine WL.run 1 tt_ok sg0 rfl rfl trivial ?_
        obtain ⟨x36, hx36, H⟩ := of_bind H
        refine WL.call [] (ref08_num_0 _ hx36) ref08_num_f rfl rfl trivial rfl rfl rfl ?_
        refine WL.run 3 tt_ok sg0 rfl rfl trivial ?_
        refine WL.alloc 117 tt_ok rfl rfl rfl ?_
        refine WL.run 1 tt_ok sg0 rfl rfl trivial ?_
        refine WL.eff 0 tt_ok et_ok eg0 rfl rfl rfl trivial ?_
        refine WL.nil ?_
        refine QT.n ?_
        refine WC.heldP (.one 0 true (.one 1 true (.one 2 true (.one 3 false (.one 4 false .done))))) [103, 106, 110, 111, 117] [103, 106, 117] rfl (by kernel_rfl) rfl (by kernel_rfl) rfl rfl (fun _ h => h) rfl rfl rfl (fun _ _ _ h => h) fun FK NK wK K => ?_
        refine WH.run 3 tt_ok rfl rfl rfl rfl trivial ?_
        refine WH.eff 0 tt_ok et_ok rfl rfl rfl rfl trivial rfl rfl ?_
        refine WH.eff 0 tt_ok et_ok rfl rfl rfl rfl trivial rfl rfl ?_
        refine WH.nil rfl ?_
        refine QT.n ?_
        refine WC.seq ?_
        refine WC.seq ?_
        refine WC.region ?_
        refine WL.run 3 tt_ok sg0 rfl rfl trivial ?_
        refine WL.nil ?_
        refine QT.n ?_
        refine WC.cond rfl (fun h37 => ?_) (fun h37 => ?_)
        · replace H := of_t H h37
          refine WC.seq ?_
          refine WC.heldP (.one 0 true (.one 1 true (.one 2 true (.one 3 true (.one 4 false (.one 5 true .done)))))) [103, 106, 110, 111, 117] [106, 110, 111, 117] rfl (by kernel_rfl) rfl (by kernel_rfl) rfl rfl (fun _ h => h) rfl rfl rfl (fun _ _ _ h => h) fun FK NK wK K => ?_
          refine WH.run 4 tt_ok rfl rfl rfl rfl trivial ?_
          refine WH.eff 0 tt_ok et_ok rfl rfl rfl rfl trivial rfl rfl ?_
          refine WH.run 1 tt_ok rfl rfl rfl rfl trivial ?_
          refine WH.nil rfl ?_
          refine QT.n ?_
          refine WC.nilT 2 enc_api_Decl rfl ?_
          refine WC.ret ?_
          refine QT.r (QB.r (QT.r (QT.r (QB.r (QT.r ?_)))))
          cases H
          exact Ends.autoC tt_ok rfl rfl rfl trivial
        replace H := of_f H h37
        refine WC.skip ?_
        refine QT.n ?_
        refine WC.heldP (.one 0 true (.one 1 true (.one 4 true (.one 2 false (.one 3 false (.one 5 true (.one 6 false .done))))))) [103, 106, 110, 111, 117] [103, 110, 111, 117] rfl (by kernel_rfl) rfl (by kernel_rfl) rfl rfl (fun _ h => h) rfl rfl rfl (fun _ _ _ h => h) fun FK NK wK K => ?_
        refine WH.mv rfl rfl rfl rfl rfl rfl rfl rfl rfl ?_
        refine WH.run 2 tt_ok rfl rfl rfl rfl trivial ?_
        refine WH.eff 205 tt_ok et_ok rfl rfl rfl rfl trivial rfl rfl ?_
        refine WH.freezeT 205 enc_api_Decl ([(⟨x9.1, 0, x36.1⟩ : T_api_Decl)] : List T_api_Decl) rfl rfl rfl rfl ?_
        obtain ⟨g38, H⟩ := of_need H
        refine WH.appT enc_api_Decl s4.2.2.2.2 ([(⟨x9.1, 0, x36.1⟩ : T_api_Decl)] : List T_api_Decl) tt_ok et_ok rfl rfl (fun _ => rfl) (fun _ => rfl) rfl rfl rfl rfl rfl (nCap_ok g38) rfl rfl rfl rfl rfl rfl rfl ?_
        refine WH.mv rfl rfl rfl rfl rfl rfl rfl rfl rfl ?_
        refine WH.eff 0 tt_ok et_ok rfl rfl rfl rfl trivial rfl rfl ?_
        refine WH.nil rfl ?_
        refine QB.n (QT.n ?_)
        exact ⟨(x36.2.S, x36.2.At, x36.2.Err, s4.2.2.2.2 ++ ([(⟨x9.1, 0, x36.1⟩ : T_api_Decl)] : List T_api_Decl)), H, LessW.mk' ⟨AVle.of rfl, AVle.of rfl, AVle.of rfl, AVle.of rfl, AVle.of rfl, trivial⟩ ⟨rfl, rfl, rfl, trivial⟩⟩
      replace H := of_f H h35
      refine WC.skip ?_
      refine QT.n ?_
      refine WC.seq ?_
      refine WC.seq ?_
      refine WC.region ?_
      refine WL.run 3 tt_ok sg0 rfl rfl trivial ?_
      refine WL.nil ?_
      refine QT.n ?_
      refine WC.cond rfl (fun h39 => ?_) (fun h39 => ?_)
      · replace H := of_t H h39
        refine WC.seq ?_
        refine WC.heldP (.one 0 true (.one 1 true (.one 2 true (.one 3 true (.one 4 false (.one 5 true .done)))))) [103, 106, 110, 111] [106, 110, 111] rfl (by kernel_rfl) rfl (by kernel_rfl) rfl rfl (fun _ h => h) rfl rfl rfl (fun _ _ _ h => h) fun FK NK wK K => ?_
        refine WH.run 4 tt_ok rfl rfl rfl rfl trivial ?_
        refine WH.eff 0 tt_ok et_ok rfl rfl rfl rfl trivial rfl rfl ?_
        refine WH.run 1 tt_ok rfl rfl rfl rfl trivial ?_
        refine WH.nil rfl ?_
        refine QT.n ?_
        refine WC.nilT 2 enc_api_Decl rfl ?_
        refine WC.ret ?_
        refine QT.r (QB.r (QT.r (QT.r (QB.r (QT.r ?_)))))
        cases H
        exact Ends.autoC tt_ok rfl rfl rfl trivial
      replace H := of_f H h39
      refine WC.skip ?_
      refine QT.n ?_
      refine WC.heldP (.one 0 true (.one 1 true (.one 4 true (.one 2 false (.one 3 false (.one 5 true (.one 6 false .done))))))) [103, 106, 110, 111] [103, 110, 111] rfl (by kernel_rfl) rfl (by kernel_rfl) rfl rfl (fun _ h => h) rfl rfl rfl (fun _ _ _ h => h) fun FK NK wK K => ?_
      refine WH.mv rfl rfl rfl rfl rfl rfl rfl rfl rfl ?_
      refine WH.run 2 tt_ok rfl rfl rfl rfl trivial ?_
      refine WH.eff 205 tt_ok et_ok rfl rfl rfl rfl trivial rfl rfl ?_
      refine WH.freezeT 205 enc_api_Decl ([(⟨x9.1, 0, 0⟩ : T_api_Decl)] : List T_api_Decl) rfl rfl rfl rfl ?_
      obtain ⟨g40, H⟩ := of_need H
      refine WH.appT enc_api_Decl s4.2.2.2.2 ([(⟨x9.1, 0, 0⟩ : T_api_Decl)] : List T_api_Decl) tt_ok et_ok rfl rfl (fun _ => rfl) (fun _ => rfl) rfl rfl rfl rfl rfl (nCap_ok g40) rfl rfl rfl rfl rfl rfl rfl ?_
      refine WH.mv rfl rfl rfl rfl rfl rfl rfl rfl rfl ?_
      refine WH.eff 0 tt_ok et_ok rfl rfl rfl rfl trivial rfl rfl ?_
      refine WH.nil rfl ?_
      refine QB.n (QT.n ?_)
      exact ⟨(x9.2.S, x9.2.At, x9.2.Err, s4.2.2.2.2 ++ ([(⟨x9.1, 0, 0⟩ : T_api_Decl)] : List T_api_Decl)), H, LessW.mk' ⟨AVle.of rfl, AVle.of rfl, AVle.of rfl, AVle.of rfl, AVle.of rfl, trivial⟩ ⟨rfl, rfl, rfl, trivial⟩⟩
    · rintro E m ⟨s8, H, hl⟩
      refine WC.lessW hl ?_
      replace H := (hK7 _).symm.trans H
      try dsimp only at H
      refine WC.region ?_
      refine WL.run 3 tt_ok sg0 rfl rfl trivial ?_
      refine WL.nil ?_
      refine QT.n ?_
      exact ⟨⟨(k5, (IntKind.i64.wrap (s4.1 + 1), s8.1, s8.2.1, s8.2.2.1, s8.2.2.2)), H⟩, Nat.lt_succ_self _, Less.mk' ⟨rfl, rfl, rfl, rfl, rfl, trivial⟩ ⟨rfl, rfl, rfl, trivial⟩⟩
  replace H := of_f H h6
  refine WC.exit ?_
  refine QT.x (QT.x (QB.hit (QT.n ?_)))
  refine WC.seq ?_
  refine WC.seq ?_
  refine WC.region ?_
  refine WL.run 1 tt_ok sg0 rfl rfl trivial ?_
  refine WL.freezeT 134 enc_api_Decl s4.2.2.2.2 rfl rfl rfl rfl ?_
  obtain ⟨x41, hx41, H⟩ := of_bind H
  refine WL.call [] (ref08_Check_0 _ hx41) ref08_Check_f rfl rfl trivial rfl rfl rfl ?_
  refine WL.run 5 tt_ok sg0 rfl rfl trivial ?_
  refine WL.nil ?_
  refine QT.n ?_
  refine WC.seq ?_
  refine WC.region ?_
  refine WL.run 2 tt_ok sg0 rfl rfl trivial ?_
  refine WL.nil ?_
  refine QT.n ?_
  refine WC.cond rfl (fun h42 => ?_) (fun h42 => ?_)
  · replace H := of_t H h42
    refine WC.seq ?_
    refine WC.heldP (.one 0 true (.one 1 true (.one 2 true (.one 3 false (.one 4 true .done))))) [103, 106] [106] rfl (by kernel_rfl) rfl (by kernel_rfl) rfl rfl (fun _ h => h) rfl rfl rfl (fun _ _ _ h => h) fun FK NK wK K => ?_
    refine WH.run 3 tt_ok rfl rfl rfl rfl trivial ?_
    refine WH.eff 0 tt_ok et_ok rfl rfl rfl rfl trivial rfl rfl ?_
    refine WH.run 1 tt_ok rfl rfl rfl rfl trivial ?_
    refine WH.nil rfl ?_
    refine QT.n ?_
    refine WC.nilT 2 enc_api_Decl rfl ?_
    refine WC.ret ?_
    refine QT.r ?_
    cases H
    exact Ends.autoC tt_ok rfl rfl rfl trivial
  replace H := of_f H h42
  refine WC.skip ?_
  refine QT.n ?_
  refine WC.seq ?_
  refine WC.heldP (.one 0 true (.one 1 true (.one 2 true (.one 3 false (.one 4 true .done))))) [103, 106] [106] rfl (by kernel_rfl) rfl (by kernel_rfl) rfl rfl (fun _ h => h) rfl rfl rfl (fun _ _ _ h => h) fun FK NK wK K => ?_
  refine WH.run 3 tt_ok rfl rfl rfl rfl trivial ?_
  refine WH.eff 0 tt_ok et_ok rfl rfl rfl rfl trivial rfl rfl ?_
  refine WH.run 1 tt_ok rfl rfl rfl rfl trivial ?_
  refine WH.nil rfl ?_
  refine QT.n ?_
  refine WC.ret ?_
  cases H
  exact Ends.autoC tt_ok rfl rfl rfl trivial
theorem ref08_Read_f : hasFunc Try.prog 33 Try.f33 := ⟨Try.func33, rfl, by kernel_rfl⟩

/-! ### logjam/logjamref08.Get -/
theorem ref08_Get_0 (a0 : ByteArray) {r : (List T_api_Decl) × Int × Int} (H : ref08_Get a0 = some r) : LJ.Spec Try.prog 14 [.d (.str a0)] [] (.tup [.d (slT enc_api_Decl r.1), .d (.int .i64 r.2.1), .d (.int .i64 r.2.2)]) [] := by
  refine LJ.Spec.code Try.func14 rfl 21 rfl rfl [] rfl fun w0 F0 S0 B0 => ?_
  unfold ref08_Get at H
  refine WC.seq ?_
  refine WC.region ?_
  refine WL.run 3 tt_ok sg0 rfl rfl trivial ?_
  refine WL.nil ?_
  refine QT.n ?_
  refine WC.seq ?_
  refine WC.region ?_
  refine WL.run 2 tt_ok sg0 rfl rfl trivial ?_
  obtain ⟨x1, hx1, H⟩ := of_bind H
  refine WL.call [] (ref08_Read_0 _ hx1) ref08_Read_f rfl rfl trivial rfl rfl rfl ?_
  refine WL.run 4 tt_ok sg0 rfl rfl trivial ?_
  refine WL.alloc 106 tt_ok rfl rfl rfl ?_
  refine WL.run 1 tt_ok sg0 rfl rfl trivial ?_
  refine WL.eff 0 tt_ok et_ok eg0 rfl rfl rfl trivial ?_
  refine WL.run 1 tt_ok sg0 rfl rfl trivial ?_
  refine WL.nil ?_
  refine QT.n ?_
  refine WC.seq ?_
  refine WC.seq ?_
  refine WC.region ?_
  refine WL.run 2 tt_ok sg0 rfl rfl trivial ?_
  refine WL.nil ?_
  refine QT.n ?_
  refine WC.cond rfl (fun h2 => ?_) (fun h2 => ?_)
  · replace H := of_t H h2
    refine WC.seq ?_
    refine WC.region ?_
    refine WL.run 4 tt_ok sg0 rfl rfl trivial ?_
    refine WL.nil ?_
    refine QT.n ?_
    refine WC.nilT 2 enc_api_Decl rfl ?_
    refine WC.ret ?_
    refine QT.r ?_
    cases H
    exact Ends.auto rfl rfl rfl trivial
  replace H := of_f H h2
  refine WC.skip ?_
  refine QT.n ?_
  refine WC.seq ?_
  refine WC.heldP (.one 0 true (.one 1 true (.one 2 true (.one 3 true (.one 4 true (.one 5 true .done)))))) [106] [106] rfl (by kernel_rfl) rfl (by kernel_rfl) rfl rfl (fun _ h => h) rfl rfl rfl (fun _ _ _ h => h) fun FK NK wK K => ?_
  refine WH.run 6 tt_ok rfl rfl rfl rfl trivial ?_
  refine WH.nil rfl ?_
  refine QT.n ?_
  refine WC.ret ?_
  cases H
  exact Ends.auto rfl rfl rfl trivial
theorem ref08_Get_f : hasFunc Try.prog 14 Try.f14 := ⟨Try.func14, rfl, by kernel_rfl⟩

/-! ### logjam/logjamlaw08.Same -/
theorem law08_Same_0 (a0 : List T_api_Decl) (a1 : List T_api_Decl) {r : Bool} (H : law08_Same a0 a1 = some r) : LJ.Spec Try.prog 15 [.d (slT enc_api_Decl a0), .d (slT enc_api_Decl a1)] [] (.d (.bool r)) [] := by
  refine LJ.Spec.code Try.func15 rfl 26 rfl rfl [] rfl fun w0 F0 S0 B0 => ?_
  unfold law08_Same at H
  refine WC.seq ?_
  refine WC.region ?_
  refine WL.run 1 tt_ok sg0 rfl rfl trivial ?_
  refine WL.nil ?_
  refine QT.n ?_
  refine WC.seq ?_
  refine WC.seq ?_
  refine WC.region ?_
  refine WL.run 5 tt_ok sg0 rfl rfl trivial ?_
  refine WL.nil ?_
  refine QT.n ?_
  refine WC.cond rfl (fun h1 => ?_) (fun h1 => ?_)
  · replace H := of_t H h1
    refine WC.seq ?_
    refine WC.region ?_
    refine WL.run 1 tt_ok sg0 rfl rfl trivial ?_
    refine WL.nil ?_
    refine QT.n ?_
    refine WC.ret ?_
    refine QT.r ?_
    cases H
    exact Ends.auto rfl rfl rfl trivial
  replace H := of_f H h1
  refine WC.skip ?_
  refine QT.n ?_
  refine WC.seq ?_
  refine WC.seq ?_
  refine WC.region ?_
  refine WL.run 1 tt_ok sg0 rfl rfl trivial ?_
  refine WL.nil ?_
  refine QT.n ?_
  refine WC.block ?_
  refine WC.loop (ι := {x : Nat × Int // law08_Same_l3 a0 a1 x.1 x.2 = some r}) (fun x => [(0, .d (slT enc_api_Decl a0)), (1, .d (slT enc_api_Decl a1)), (5, .d (.int .i64 x.1.2))]) (fun x => []) (fun x => x.1.1) ⟨(fuel, 0), H⟩ (Less.mk' ⟨rfl, rfl, rfl, trivial⟩ trivial) fun x => ?_
  obtain ⟨⟨k3, s2⟩, H⟩ := x
  rcases k3 with _ | k3
  · exact of_none H
  rw [law08_Same_l3] at H
  refine WC.seq ?_
  refine WC.seq ?_
  refine WC.region ?_
  refine WL.run 4 tt_ok sg0 rfl rfl trivial ?_
  refine WL.nil ?_
  refine QT.n ?_
  refine WC.cond rfl (fun h4 => ?_) (fun h4 => ?_)
  · replace H := of_t H h4
    refine WC.skip ?_
    refine QT.n ?_
    refine WC.seq ?_
    refine WC.block ?_
    refine WC.seq ?_
    refine WC.heldP (.one 0 true (.one 1 true (.one 2 true (.one 3 true (.one 4 true (.one 5 true (.one 6 true (.one 7 true (.one 8 true .done))))))))) [] [] rfl (by kernel_rfl) rfl (by kernel_rfl) rfl rfl (fun _ h => h) rfl rfl rfl (fun _ _ _ h => h) fun FK NK wK K => ?_
    obtain ⟨g5, H⟩ := of_need H
    obtain ⟨g6, H⟩ := of_need H
    refine WH.run 8 tt_ok rfl rfl rfl rfl ⟨⟨(nIn_ok g5).1, (nIn_ok g5).2, rfl⟩, ⟨(nIn_ok g6).1, (nIn_ok g6).2, rfl⟩, trivial⟩ ?_
    refine WH.yv rfl (LJ.Y.structEq .neq (.inr rfl) rfl rfl rfl (by kernel_rfl) rfl) rfl rfl rfl ?_
    refine WH.nil rfl ?_
    refine QT.n ?_
    refine WC.cond rfl (fun h7 => ?_) (fun h7 => ?_)
    · replace H := of_t H h7
      refine WC.seq ?_
      refine WC.region ?_
      refine WL.run 1 tt_ok sg0 rfl rfl trivial ?_
      refine WL.nil ?_
      refine QT.n ?_
      refine WC.ret ?_
      refine QB.r (QT.r (QT.r (QB.r (QT.r ?_))))
      cases H
      exact Ends.auto rfl rfl rfl trivial
    replace H := of_f H h7
    refine WC.skip ?_
    refine QB.n (QT.n ?_)
    refine WC.region ?_
    refine WL.run 3 tt_ok sg0 rfl rfl trivial ?_
    refine WL.nil ?_
    refine QT.n ?_
    exact ⟨⟨(k3, IntKind.i64.wrap (s2 + 1)), H⟩, Nat.lt_succ_self _, Less.mk' ⟨rfl, rfl, rfl, trivial⟩ trivial⟩
  replace H := of_f H h4
  refine WC.exit ?_
  refine QT.x (QT.x (QB.hit (QT.n ?_)))
  refine WC.seq ?_
  refine WC.region ?_
  refine WL.run 1 tt_ok sg0 rfl rfl trivial ?_
  refine WL.nil ?_
  refine QT.n ?_
  refine WC.ret ?_
  cases H
  exact Ends.auto rfl rfl rfl trivial
theorem law08_Same_f : hasFunc Try.prog 15 Try.f15 := ⟨Try.func15, rfl, by kernel_rfl⟩

/-! ### logjam/logjamlaw08.DeclGets -/
theorem law08_DeclGets_0 (a0 : ByteArray) {r : Bool} (H : law08_DeclGets a0 = some r) : LJ.Spec Try.prog 4 [.d (.str a0)] [] (.d (.bool r)) [] := by
  refine LJ.Spec.code Try.func4 rfl 37 rfl rfl [] rfl fun w0 F0 S0 B0 => ?_
  unfold law08_DeclGets at H
  refine WC.seq ?_
  refine WC.region ?_
  refine WL.run 1 tt_ok sg0 rfl rfl trivial ?_
  refine WL.nil ?_
  refine QT.n ?_
  refine WC.seq ?_
  refine WC.region ?_
  refine WL.run 1 tt_ok sg0 rfl rfl trivial ?_
  obtain ⟨x1, hx1, H⟩ := of_bind H
  refine WL.call [] (decl_Get_0 _ hx1) decl_Get_f rfl rfl trivial rfl rfl rfl ?_
  refine WL.run 7 tt_ok sg0 rfl rfl trivial ?_
  refine WL.nil ?_
  refine QT.n ?_
  refine WC.seq ?_
  refine WC.region ?_
  refine WL.run 1 tt_ok sg0 rfl rfl trivial ?_
  obtain ⟨x2, hx2, H⟩ := of_bind H
  refine WL.call [] (ref08_Get_0 _ hx2) ref08_Get_f rfl rfl trivial rfl rfl rfl ?_
  refine WL.run 7 tt_ok sg0 rfl rfl trivial ?_
  refine WL.nil ?_
  refine QT.n ?_
  refine WC.seq ?_
  refine WC.region ?_
  refine WL.run 2 tt_ok sg0 rfl rfl trivial ?_
  obtain ⟨x3, hx3, H⟩ := of_bind H
  refine WL.call [] (law08_Same_0 _ _ hx3) law08_Same_f rfl rfl trivial rfl rfl rfl ?_
  refine WL.run 1 tt_ok sg0 rfl rfl trivial ?_
  refine WL.sect 3 3 true tt_ok sg0 rfl rfl (fun _ => trivial) ?_
  refine WL.run 2 tt_ok sg0 rfl rfl ⟨by first | exact id | exact fun h => by rw [h]; rfl | simp_all, trivial⟩ ?_
  refine WL.sect 3 8 true tt_ok sg0 rfl rfl (fun _ => trivial) ?_
  refine WL.run 2 tt_ok sg0 rfl rfl ⟨by first | exact id | exact fun h => by rw [h]; rfl | simp_all, trivial⟩ ?_
  obtain ⟨x4, hx4, H⟩ := of_bind H
  refine WL.sect 1 13 true tt_ok [PSig.at' law08_lives_f (((x3 && (iEq x1.2.1 x2.2.1)) && (iEq x1.2.2 x2.2.2)) = true) rfl (fun hb => law08_lives_0  (of_t hx4 hb))] rfl rfl (fun hb => ⟨⟨hb, rfl⟩, trivial⟩) ?_
  refine WL.run 2 tt_ok sg0 rfl rfl ⟨by first | exact id | exact fun h => by rw [h]; rfl | simp_all, trivial⟩ ?_
  refine WL.nil ?_
  refine QT.n ?_
  refine WC.ret ?_
  cases H
  exact Ends.auto rfl rfl rfl trivial
theorem law08_DeclGets_f : hasFunc Try.prog 4 Try.f4 := ⟨Try.func4, rfl, by kernel_rfl⟩

/-! ### logjam/logjamlaw08.DeclBack -/
theorem law08_DeclBack_0 (a0 : List T_api_Decl) (a1 : ByteArray) {r : Bool} (H : law08_DeclBack a0 a1 = some r) : LJ.Spec Try.prog 5 [.d (slT enc_api_Decl a0), .d (.str a1)] [] (.d (.bool r)) [] := by
  refine LJ.Spec.code Try.func5 rfl 55 rfl rfl [] rfl fun w0 F0 S0 B0 => ?_
  unfold law08_DeclBack at H
  refine WC.seq ?_
  refine WC.region ?_
  refine WL.run 1 tt_ok sg0 rfl rfl trivial ?_
  refine WL.nil ?_
  refine QT.n ?_
  refine WC.seq ?_
  refine WC.seq ?_
  refine WC.region ?_
  refine WL.run 1 tt_ok sg0 rfl rfl trivial ?_
  obtain ⟨x1, hx1, H⟩ := of_bind H
  refine WL.call [] (ref08_Check_0 _ hx1) ref08_Check_f rfl rfl trivial rfl rfl rfl ?_
  refine WL.run 5 tt_ok sg0 rfl rfl trivial ?_
  refine WL.nil ?_
  refine QT.n ?_
  refine WC.seq ?_
  refine WC.region ?_
  refine WL.run 2 tt_ok sg0 rfl rfl trivial ?_
  refine WL.nil ?_
  refine QT.n ?_
  refine WC.cond rfl (fun h2 => ?_) (fun h2 => ?_)
  · replace H := of_t H h2
    refine WC.seq ?_
    refine WC.region ?_
    obtain ⟨x3, hx3, H⟩ := of_bind H
    refine WL.call [] (law08_lives_0 hx3) law08_lives_f rfl rfl trivial rfl rfl rfl ?_
    refine WL.run 1 tt_ok sg0 rfl rfl trivial ?_
    refine WL.nil ?_
    refine QT.n ?_
    refine WC.ret ?_
    refine QT.r ?_
    cases H
    exact Ends.auto rfl rfl rfl trivial
  replace H := of_f H h2
  refine WC.skip ?_
  refine QT.n ?_
  refine WC.seq ?_
  refine WC.region ?_
  refine WL.eff 121 tt_ok et_ok eg0 rfl rfl rfl trivial ?_
  refine WL.run 1 tt_ok sg0 rfl rfl trivial ?_
  refine WL.row 121 (([] : List T_api_Decl).map enc_api_Decl) rfl rfl rfl ?_
  obtain ⟨g4, H⟩ := of_need H
  refine WL.appT enc_api_Decl ([] : List T_api_Decl) a0 tt_ok et_ok rfl rfl (fun _ => rfl) (fun _ => rfl) rfl rfl rfl rfl (nCap_ok g4) rfl rfl rfl rfl rfl ?_
  refine WL.freezeT 121 enc_api_Decl (([] : List T_api_Decl) ++ a0) rfl rfl rfl rfl ?_
  obtain ⟨x5, hx5, H⟩ := of_bind H
  refine WL.call [] (decl_Put_0 _ hx5) decl_Put_f rfl rfl trivial rfl rfl rfl ?_
  refine WL.run 5 tt_ok sg0 rfl rfl trivial ?_
  refine WL.nil ?_
  refine QT.n ?_
  refine WC.seq ?_
  refine WC.region ?_
  obtain ⟨g6, H⟩ := of_need H
  refine WL.run 3 tt_ok sg0 rfl rfl ⟨(nStr_ok g6), trivial⟩ ?_
  obtain ⟨x7, hx7, H⟩ := of_bind H
  refine WL.call [] (decl_Get_0 _ hx7) decl_Get_f rfl rfl trivial rfl rfl rfl ?_
  refine WL.run 7 tt_ok sg0 rfl rfl trivial ?_
  refine WL.nil ?_
  refine QT.n ?_
  refine WC.seq ?_
  refine WC.region ?_
  refine WL.run 3 tt_ok sg0 rfl rfl trivial ?_
  refine WL.sect 2 2 true tt_ok sg0 rfl rfl (fun _ => trivial) ?_
  refine WL.run 2 tt_ok sg0 rfl rfl ⟨by first | exact id | exact fun h => by rw [h]; rfl | simp_all, trivial⟩ ?_
  obtain ⟨x8, hx8, H⟩ := of_bind H
  refine WL.sect 3 6 true tt_ok [PSig.at' law08_Same_f (((iEq x5.2 0) && (iEq x7.2.2 0)) = true) rfl (fun hb => law08_Same_0 _ _ (of_t hx8 hb))] rfl rfl (fun hb => ⟨⟨hb, rfl⟩, trivial⟩) ?_
  refine WL.run 2 tt_ok sg0 rfl rfl ⟨by first | exact id | exact fun h => by rw [h]; rfl | simp_all, trivial⟩ ?_
  refine WL.sect 4 11 true tt_ok sg0 rfl rfl (fun _ => trivial) ?_
  refine WL.run 2 tt_ok sg0 rfl rfl ⟨by first | exact id | exact fun h => by rw [h]; rfl | simp_all, trivial⟩ ?_
  obtain ⟨x9, hx9, H⟩ := of_bind H
  refine WL.sect 1 17 true tt_ok [PSig.at' law08_lives_f (((((iEq x5.2 0) && (iEq x7.2.2 0)) && x8) && (iEq x7.2.1 (x5.1.size : Int))) = true) rfl (fun hb => law08_lives_0  (of_t hx9 hb))] rfl rfl (fun hb => ⟨⟨hb, rfl⟩, trivial⟩) ?_
  refine WL.run 2 tt_ok sg0 rfl rfl ⟨by first | exact id | exact fun h => by rw [h]; rfl | simp_all, trivial⟩ ?_
  refine WL.nil ?_
  refine QT.n ?_
  refine WC.ret ?_
  cases H
  exact Ends.auto rfl rfl rfl trivial
theorem law08_DeclBack_f : hasFunc Try.prog 5 Try.f5 := ⟨Try.func5, rfl, by kernel_rfl⟩

/-! ### logjam/logjamlaw08.DeclOnce -/
theorem law08_DeclOnce_0 (a0 : ByteArray) {r : Bool} (H : law08_DeclOnce a0 = some r) : LJ.Spec Try.prog 6 [.d (.str a0)] [] (.d (.bool r)) [] := by
  refine LJ.Spec.code Try.func6 rfl 53 rfl rfl [] rfl fun w0 F0 S0 B0 => ?_
  unfold law08_DeclOnce at H
  refine WC.seq ?_
  refine WC.region ?_
  refine WL.run 1 tt_ok sg0 rfl rfl trivial ?_
  refine WL.nil ?_
  refine QT.n ?_
  refine WC.seq ?_
  refine WC.region ?_
  refine WL.run 1 tt_ok sg0 rfl rfl trivial ?_
  obtain ⟨x1, hx1, H⟩ := of_bind H
  refine WL.call [] (decl_Get_0 _ hx1) decl_Get_f rfl rfl trivial rfl rfl rfl ?_
  refine WL.run 7 tt_ok sg0 rfl rfl trivial ?_
  refine WL.nil ?_
  refine QT.n ?_
  refine WC.seq ?_
  refine WC.seq ?_
  refine WC.region ?_
  refine WL.run 2 tt_ok sg0 rfl rfl trivial ?_
  refine WL.nil ?_
  refine QT.n ?_
  refine WC.cond rfl (fun h2 => ?_) (fun h2 => ?_)
  · replace H := of_t H h2
    refine WC.seq ?_
    refine WC.region ?_
    refine WL.run 4 tt_ok sg0 rfl rfl trivial ?_
    refine WL.sect 2 3 true tt_ok sg0 rfl rfl (fun _ => trivial) ?_
    refine WL.run 2 tt_ok sg0 rfl rfl ⟨by first | exact id | exact fun h => by rw [h]; rfl | simp_all, trivial⟩ ?_
    obtain ⟨x3, hx3, H⟩ := of_bind H
    refine WL.sect 1 7 true tt_ok [PSig.at' law08_lives_f (((iEq (x1.1.length : Int) 0) && (iEq x1.2.1 0)) = true) rfl (fun hb => law08_lives_0  (of_t hx3 hb))] rfl rfl (fun hb => ⟨⟨hb, rfl⟩, trivial⟩) ?_
    refine WL.run 2 tt_ok sg0 rfl rfl ⟨by first | exact id | exact fun h => by rw [h]; rfl | simp_all, trivial⟩ ?_
    refine WL.nil ?_
    refine QT.n ?_
    refine WC.ret ?_
    refine QT.r ?_
    cases H
    exact Ends.auto rfl rfl rfl trivial
  replace H := of_f H h2
  refine WC.skip ?_
  refine QT.n ?_
  refine WC.seq ?_
  refine WC.region ?_
  refine WL.run 1 tt_ok sg0 rfl rfl trivial ?_
  obtain ⟨x4, hx4, H⟩ := of_bind H
  refine WL.call [] (decl_Put_0 _ hx4) decl_Put_f rfl rfl trivial rfl rfl rfl ?_
  refine WL.run 5 tt_ok sg0 rfl rfl trivial ?_
  refine WL.nil ?_
  refine QT.n ?_
  refine WC.seq ?_
  refine WC.region ?_
  refine WL.run 3 tt_ok sg0 rfl rfl trivial ?_
  refine WL.sect 2 2 true tt_ok sg0 rfl rfl (fun _ => trivial) ?_
  refine WL.run 2 tt_ok sg0 rfl rfl ⟨by first | exact id | exact fun h => by rw [h]; rfl | simp_all, trivial⟩ ?_
  refine WL.sect 4 6 true tt_ok sg0 rfl rfl (fun _ => trivial) ?_
  refine WL.run 2 tt_ok sg0 rfl rfl ⟨by first | exact id | exact fun h => by rw [h]; rfl | simp_all, trivial⟩ ?_
  obtain ⟨g5, H⟩ := of_needS H
  refine WL.sect 5 12 true tt_ok sg0 rfl rfl (fun hb => ⟨(nTo_ok (g5 hb)), trivial⟩) ?_
  refine WL.run 2 tt_ok sg0 rfl rfl ⟨by first | exact id | exact fun h => by rw [h]; rfl | simp_all, trivial⟩ ?_
  obtain ⟨x6, hx6, H⟩ := of_bind H
  refine WL.sect 1 19 true tt_ok [PSig.at' law08_lives_f (((((iEq x4.2 0) && (iLt 0 x1.2.1)) && (iLe x1.2.1 (a0.size : Int))) && (sEq x4.1 (a0.extract 0 x1.2.1.toNat))) = true) rfl (fun hb => law08_lives_0  (of_t hx6 hb))] rfl rfl (fun hb => ⟨⟨hb, rfl⟩, trivial⟩) ?_
  refine WL.run 2 tt_ok sg0 rfl rfl ⟨by first | exact id | exact fun h => by rw [h]; rfl | simp_all, trivial⟩ ?_
  refine WL.nil ?_
  refine QT.n ?_
  refine WC.ret ?_
  cases H
  exact Ends.auto rfl rfl rfl trivial
theorem law08_DeclOnce_f : hasFunc Try.prog 6 Try.f6 := ⟨Try.func6, rfl, by kernel_rfl⟩

end Go.Proofs.Ythcinpgklihaoaa.W
