/- Each Go function comes to what its plain function gives, where that gives something. -/
import Derived.Test.YtmagenmamdgjaaaPF
import Derived.Test.YtmagenmamdgjaaaProg
namespace Go.Proofs.Ytmagenmamdgjaaa.W
open Go Go.RowKit LJ
set_option linter.unusedVariables false
set_option linter.unusedSimpArgs false
set_option maxRecDepth 10000
/-- The types that the walks meet. -/
def tt : List (Nat × TK) := [(3, .int .i64), (4, .bool), (5, .int .u8), (9, .str), (22, .slice 56 3), (23, .slice 47 1), (24, .slice 37 3), (26, .struct 3 [(0, 1, true), (1, 1, true), (2, 1, true)] [.nils, .nils, .nils]), (27, .slice 4 1), (30, .slice 3 1), (31, .int .i64), (35, .slice 40 3), (37, .struct 3 [(0, 1, true), (1, 1, true), (2, 1, true)] [.int .i64 0, .int .i64 0, .nils]), (40, .struct 3 [(0, 1, true), (1, 1, true), (2, 1, true)] [.int .i64 0, .int .i64 0, .int .i64 0]), (47, .slice 61 1), (49, .ptr), (51, .struct 8 [(0, 3, false), (3, 1, true), (4, 1, true), (5, 1, true), (6, 1, true), (7, 1, true)] [.nils, .nils, .nils, .nils, .nils, .nils, .int .i64 0, .int .i64 0]), (56, .struct 3 [(0, 1, true), (1, 1, true), (2, 1, true)] [.int .i64 0, .int .i64 0, .int .i64 0]), (61, .slice 64 3), (64, .struct 3 [(0, 1, true), (1, 1, true), (2, 1, true)] [.int .i64 0, .int .i64 0, .int .i64 0]), (74, .slice 9 1), (76, .slice 30 1)]
theorem tt_ok : ttOK Try.prog tt = true := by kernel_rfl
/-- Elements of the slices that are appended to: cells, bytes. -/
def et : List (Nat × Nat × Nat) := [(3, 1, 8), (4, 1, 1), (9, 1, 16), (30, 1, 24), (37, 3, 40), (40, 3, 24), (47, 1, 24), (56, 3, 24), (61, 1, 24), (64, 3, 24)]
theorem et_ok : etOK Try.prog et = true := by kernel_rfl
def sg0 : List (PSig Try.prog) := []
def eg0 : List (ESig Try.prog) := []
/-! ### logjam/logjamref03.Fits -/
theorem ref03_Fits_0 (a0 : Int) {r : Bool} (H : ref03_Fits a0 = some r) : LJ.Spec Try.prog 31 [.d (.int .i64 a0)] [] (.d (.bool r)) [] := by
  refine LJ.Spec.code Try.func31 rfl 9 rfl rfl [] rfl fun w0 F0 S0 B0 => ?_
  unfold ref03_Fits at H
  refine WC.seq ?_
  refine WC.region ?_
  refine WL.run 1 tt_ok sg0 rfl rfl trivial ?_
  refine WL.nil ?_
  refine QT.n ?_
  refine WC.seq ?_
  refine WC.region ?_
  refine WL.run 3 tt_ok sg0 rfl rfl trivial ?_
  refine WL.sect 2 2 true tt_ok sg0 rfl rfl (fun _ => trivial) ?_
  refine WL.run 2 tt_ok sg0 rfl rfl ⟨by first | exact id | exact fun h => by rw [h]; rfl | simp_all, trivial⟩ ?_
  refine WL.nil ?_
  refine QT.n ?_
  refine WC.ret ?_
  cases H
  exact Ends.auto rfl rfl rfl trivial
theorem ref03_Fits_f : hasFunc Try.prog 31 Try.f31 := ⟨Try.func31, rfl, by kernel_rfl⟩

/-! ### logjam/logjamref08.kinds -/
theorem ref08_kinds_0 (a0 : Int) {r : List Int} (H : ref08_kinds a0 = some r) : LJ.Spec Try.prog 38 [.d (.int .u8 a0)] [] (.d (slT enc_i64 r)) [] := by
  refine LJ.Spec.code Try.func38 rfl 30 rfl rfl [] rfl fun w0 F0 S0 B0 => ?_
  unfold ref08_kinds at H
  refine WC.seq ?_
  refine WC.region ?_
  refine WL.run 1 tt_ok sg0 rfl rfl trivial ?_
  refine WL.nil ?_
  refine QT.n ?_
  refine WC.seq ?_
  refine WC.region ?_
  refine WL.run 1 tt_ok sg0 rfl rfl trivial ?_
  refine WL.nil ?_
  refine QT.n ?_
  refine WC.seq ?_
  refine WC.region ?_
  refine WL.eff 106 tt_ok et_ok eg0 rfl rfl rfl trivial ?_
  refine WL.freezeT 106 enc_i64 ([1, 2] : List Int) rfl rfl rfl rfl ?_
  refine WL.eff 107 tt_ok et_ok eg0 rfl rfl rfl trivial ?_
  refine WL.freezeT 107 enc_i64 ([3] : List Int) rfl rfl rfl rfl ?_
  refine WL.eff 108 tt_ok et_ok eg0 rfl rfl rfl trivial ?_
  refine WL.freezeT 108 enc_i64 ([6] : List Int) rfl rfl rfl rfl ?_
  refine WL.eff 109 tt_ok et_ok eg0 rfl rfl rfl trivial ?_
  refine WL.freezeT 109 enc_i64 ([4] : List Int) rfl rfl rfl rfl ?_
  refine WL.eff 110 tt_ok et_ok eg0 rfl rfl rfl trivial ?_
  refine WL.freezeT 110 enc_i64 ([1] : List Int) rfl rfl rfl rfl ?_
  refine WL.eff 111 tt_ok et_ok eg0 rfl rfl rfl trivial ?_
  refine WL.freezeT 111 enc_i64 ([5] : List Int) rfl rfl rfl rfl ?_
  refine WL.eff 112 tt_ok et_ok eg0 rfl rfl rfl trivial ?_
  refine WL.freezeT 112 enc_i64 ([7] : List Int) rfl rfl rfl rfl ?_
  refine WL.eff 113 tt_ok et_ok eg0 rfl rfl rfl trivial ?_
  refine WL.freezeT 113 enc_i64 ([1, 6] : List Int) rfl rfl rfl rfl ?_
  refine WL.eff 114 tt_ok et_ok eg0 rfl rfl rfl trivial ?_
  refine WL.freezeT 114 enc_sl_i64 ([([1, 2] : List Int), ([3] : List Int), ([6] : List Int), ([4] : List Int), ([1] : List Int), ([5] : List Int), ([7] : List Int), ([1, 6] : List Int)] : List (List Int)) rfl rfl rfl rfl ?_
  refine WL.run 1 tt_ok sg0 rfl rfl trivial ?_
  refine WL.nil ?_
  refine QT.n ?_
  refine WC.seq ?_
  refine WC.seq ?_
  refine WC.region ?_
  refine WL.run 1 tt_ok sg0 rfl rfl trivial ?_
  refine WL.nil ?_
  refine QT.n ?_
  refine WC.block ?_
  refine WC.loop (ι := {x : Nat × Int // ref08_kinds_l2 a0 x.1 x.2 = some r}) (fun x => [(0, .d (.int .u8 a0)), (3, .d (.str (⟨#[117, 115, 112, 99, 109, 98, 118, 113]⟩ : ByteArray))), (4, .d (slT enc_sl_i64 ([([1, 2] : List Int), ([3] : List Int), ([6] : List Int), ([4] : List Int), ([1] : List Int), ([5] : List Int), ([7] : List Int), ([1, 6] : List Int)] : List (List Int)))), (5, .d (.int .i64 x.1.2))]) (fun x => []) (fun x => x.1.1) ⟨(fuel, 0), H⟩ (Less.mk' ⟨rfl, rfl, rfl, rfl, trivial⟩ trivial) fun x => ?_
  obtain ⟨⟨k2, s1⟩, H⟩ := x
  rcases k2 with _ | k2
  · exact of_none H
  rw [ref08_kinds_l2] at H
  refine WC.seq ?_
  refine WC.seq ?_
  refine WC.region ?_
  refine WL.run 4 tt_ok sg0 rfl rfl trivial ?_
  refine WL.nil ?_
  refine QT.n ?_
  refine WC.cond rfl (fun h3 => ?_) (fun h3 => ?_)
  · replace H := of_t H h3
    refine WC.skip ?_
    refine QT.n ?_
    refine WC.seq ?_
    refine WC.block ?_
    refine WC.seq ?_
    refine WC.region ?_
    obtain ⟨g4, H⟩ := of_need H
    refine WL.run 5 tt_ok sg0 rfl rfl ⟨(nIn_ok g4), trivial⟩ ?_
    refine WL.nil ?_
    refine QT.n ?_
    refine WC.cond rfl (fun h5 => ?_) (fun h5 => ?_)
    · replace H := of_t H h5
      refine WC.seq ?_
      refine WC.region ?_
      obtain ⟨g6, H⟩ := of_need H
      refine WL.run 5 tt_ok sg0 rfl rfl ⟨⟨(nIn_ok g6).1, (nIn_ok g6).2, rfl⟩, trivial⟩ ?_
      refine WL.nil ?_
      refine QT.n ?_
      refine WC.ret ?_
      refine QB.r (QT.r (QT.r (QB.r (QT.r ?_))))
      cases H
      exact Ends.auto rfl rfl rfl trivial
    replace H := of_f H h5
    refine WC.skip ?_
    refine QB.n (QT.n ?_)
    refine WC.region ?_
    refine WL.run 3 tt_ok sg0 rfl rfl trivial ?_
    refine WL.nil ?_
    refine QT.n ?_
    exact ⟨⟨(k2, IntKind.i64.wrap (s1 + 1)), H⟩, Nat.lt_succ_self _, Less.mk' ⟨rfl, rfl, rfl, rfl, trivial⟩ trivial⟩
  replace H := of_f H h3
  refine WC.exit ?_
  refine QT.x (QT.x (QB.hit (QT.n ?_)))
  refine WC.seq ?_
  refine WC.region ?_
  refine WL.run 1 tt_ok sg0 rfl rfl trivial ?_
  refine WL.nil ?_
  refine QT.n ?_
  refine WC.nilT 2 enc_i64 rfl ?_
  refine WC.ret ?_
  cases H
  exact Ends.auto rfl rfl rfl trivial
theorem ref08_kinds_f : hasFunc Try.prog 38 Try.f38 := ⟨Try.func38, rfl, by kernel_rfl⟩

/-! ### logjam/logjamref08.Fits -/
theorem ref08_Fits_0 (a0 : List T_api_Decl) (a1 : Int) (a2 : Int) {r : Bool} (H : ref08_Fits a0 a1 a2 = some r) : LJ.Spec Try.prog 32 [.d (slT enc_api_Decl a0), .d (.int .u8 a1), .d (.int .i64 a2)] [] (.d (.bool r)) [] := by
  refine LJ.Spec.code Try.func32 rfl 37 rfl rfl [] rfl fun w0 F0 S0 B0 => ?_
  unfold ref08_Fits at H
  refine WC.seq ?_
  refine WC.region ?_
  refine WL.run 1 tt_ok sg0 rfl rfl trivial ?_
  refine WL.nil ?_
  refine QT.n ?_
  refine WC.seq ?_
  refine WC.region ?_
  refine WL.run 1 tt_ok sg0 rfl rfl trivial ?_
  obtain ⟨x1, hx1, H⟩ := of_bind H
  refine WL.call [] (ref08_kinds_0 _ hx1) ref08_kinds_f rfl rfl trivial rfl rfl rfl ?_
  refine WL.run 1 tt_ok sg0 rfl rfl trivial ?_
  refine WL.nil ?_
  refine QT.n ?_
  refine WC.seq ?_
  refine WC.seq ?_
  refine WC.region ?_
  refine WL.run 1 tt_ok sg0 rfl rfl trivial ?_
  refine WL.nil ?_
  refine QT.n ?_
  refine WC.block ?_
  refine WC.loop (ι := {x : Nat × Int // ref08_Fits_l3 a0 a2 x1 x.1 x.2 = some r}) (fun x => [(0, .d (slT enc_api_Decl a0)), (2, .d (.int .i64 a2)), (7, .d (slT enc_i64 x1)), (8, .d (.int .i64 x.1.2))]) (fun x => []) (fun x => x.1.1) ⟨(fuel, 0), H⟩ (Less.mk' ⟨rfl, rfl, rfl, rfl, trivial⟩ trivial) fun x => ?_
  obtain ⟨⟨k3, s2⟩, H⟩ := x
  rcases k3 with _ | k3
  · exact of_none H
  rw [ref08_Fits_l3] at H
  refine WC.seq ?_
  refine WC.seq ?_
  refine WC.region ?_
  refine WL.run 5 tt_ok sg0 rfl rfl trivial ?_
  refine WL.sect 2 4 true tt_ok sg0 rfl rfl (fun _ => trivial) ?_
  refine WL.run 2 tt_ok sg0 rfl rfl ⟨by first | exact id | exact fun h => by rw [h]; rfl | simp_all, trivial⟩ ?_
  refine WL.sect 4 8 true tt_ok sg0 rfl rfl (fun _ => trivial) ?_
  refine WL.run 1 tt_ok sg0 rfl rfl ⟨by first | exact id | exact fun h => by rw [h]; rfl | simp_all, trivial⟩ ?_
  refine WL.nil ?_
  refine QT.n ?_
  refine WC.cond rfl (fun h4 => ?_) (fun h4 => ?_)
  · replace H := of_t H h4
    refine WC.skip ?_
    refine QT.n ?_
    refine WC.seq ?_
    refine WC.block ?_
    refine WC.seq ?_
    refine WC.heldP (.one 0 true (.one 1 true (.one 2 true (.one 3 true (.one 4 true (.one 5 true (.one 6 true (.one 7 true (.one 8 true (.one 9 true .done)))))))))) [] [] rfl (by kernel_rfl) rfl (by kernel_rfl) rfl rfl (fun _ h => h) rfl rfl rfl (fun _ _ _ h => h) fun FK NK wK K => ?_
    obtain ⟨g5, H⟩ := of_need H
    obtain ⟨g6, H⟩ := of_need H
    refine WH.run 10 tt_ok rfl rfl rfl rfl ⟨⟨(nIn_ok g5).1, (nIn_ok g5).2, rfl⟩, ⟨(nIn_ok g6).1, (nIn_ok g6).2, rfl⟩, trivial⟩ ?_
    refine WH.nil rfl ?_
    refine QT.n ?_
    refine WC.cond rfl (fun h7 => ?_) (fun h7 => ?_)
    · replace H := of_t H h7
      refine WC.seq ?_
      refine WC.region ?_
      refine WL.run 1 tt_ok sg0 rfl rfl trivial ?_
      refine WL.nil ?_
      refine QT.n ?_
      refine WC.ret ?_
      refine QB.r (QT.r (QT.r (QB.r (QT.r ?_))))
      cases H
      exact Ends.auto rfl rfl rfl trivial
    replace H := of_f H h7
    refine WC.skip ?_
    refine QB.n (QT.n ?_)
    refine WC.region ?_
    refine WL.run 3 tt_ok sg0 rfl rfl trivial ?_
    refine WL.nil ?_
    refine QT.n ?_
    exact ⟨⟨(k3, IntKind.i64.wrap (s2 + 1)), H⟩, Nat.lt_succ_self _, Less.mk' ⟨rfl, rfl, rfl, rfl, trivial⟩ trivial⟩
  replace H := of_f H h4
  refine WC.exit ?_
  refine QT.x (QT.x (QB.hit (QT.n ?_)))
  refine WC.seq ?_
  refine WC.region ?_
  refine WL.run 1 tt_ok sg0 rfl rfl trivial ?_
  refine WL.nil ?_
  refine QT.n ?_
  refine WC.ret ?_
  cases H
  exact Ends.auto rfl rfl rfl trivial
theorem ref08_Fits_f : hasFunc Try.prog 32 Try.f32 := ⟨Try.func32, rfl, by kernel_rfl⟩

/-! ### logjam/logjamref08.one -/
theorem ref08_one_0 (a0 : List T_api_Decl) (a1 : T_api_Decl) {r : Int} (H : ref08_one a0 a1 = some r) : LJ.Spec Try.prog 20 [.d (slT enc_api_Decl a0), .d (.agg [.int .i64 a1.Kind, .int .i64 a1.A, .int .i64 a1.B])] [] (.d (.int .i64 r)) [] := by
  refine LJ.Spec.code Try.func20 rfl 100 rfl rfl [] rfl fun w0 F0 S0 B0 => ?_
  unfold ref08_one at H
  refine WC.seq ?_
  refine WC.region ?_
  refine WL.eff 103 tt_ok et_ok eg0 rfl rfl rfl trivial ?_
  refine WL.run 1 tt_ok sg0 rfl rfl trivial ?_
  refine WL.nil ?_
  refine QT.n ?_
  refine WC.seq ?_
  refine WC.seq ?_
  refine WC.region ?_
  refine WL.run 4 tt_ok sg0 rfl rfl trivial ?_
  refine WL.sect 3 3 false tt_ok sg0 rfl rfl (fun _ => trivial) ?_
  refine WL.run 1 tt_ok sg0 rfl rfl ⟨by first | exact id | exact fun h => by rw [h]; rfl | simp_all, trivial⟩ ?_
  refine WL.nil ?_
  refine QT.n ?_
  refine WC.cond rfl (fun h1 => ?_) (fun h1 => ?_)
  · replace H := of_t H h1
    refine WC.seq ?_
    refine WC.region ?_
    refine WL.run 1 tt_ok sg0 rfl rfl trivial ?_
    refine WL.nil ?_
    refine QT.n ?_
    refine WC.ret ?_
    refine QT.r ?_
    cases H
    exact Ends.auto rfl rfl rfl trivial
  replace H := of_f H h1
  refine WC.skip ?_
  refine QT.n ?_
  refine WC.seq ?_
  refine WC.seq ?_
  refine WC.region ?_
  refine WL.run 4 tt_ok sg0 rfl rfl trivial ?_
  refine WL.sect 4 3 true tt_ok sg0 rfl rfl (fun _ => trivial) ?_
  refine WL.sect 3 7 false tt_ok sg0 rfl rfl (fun _ => trivial) ?_
  refine WL.sect 2 3 true tt_ok sg0 rfl rfl (fun hb => ⟨by first | exact id | exact ⟨hb, fun h => by rw [hb, h]; rfl⟩ | exact ⟨hb, id⟩ | exact fun h => by rw [hb, h]; rfl | exact fun h => by rw [h]; rfl | simp_all, trivial⟩) ?_
  refine WL.sect 3 12 false tt_ok sg0 rfl rfl (fun _ => trivial) ?_
  refine WL.sect 2 3 true tt_ok sg0 rfl rfl (fun hb => ⟨by first | exact id | exact ⟨hb, fun h => by rw [hb, h]; rfl⟩ | exact ⟨hb, id⟩ | exact fun h => by rw [hb, h]; rfl | exact fun h => by rw [h]; rfl | simp_all, trivial⟩) ?_
  refine WL.sect 5 17 false tt_ok sg0 rfl rfl (fun _ => trivial) ?_
  refine WL.sect 1 3 true tt_ok sg0 rfl rfl (fun hb => ⟨by first | exact id | exact ⟨hb, fun h => by rw [hb, h]; rfl⟩ | exact ⟨hb, id⟩ | exact fun h => by rw [hb, h]; rfl | exact fun h => by rw [h]; rfl | simp_all, trivial⟩) ?_
  refine WL.run 1 tt_ok sg0 rfl rfl ⟨by first | exact id | exact fun h => by rw [h]; rfl | simp_all, trivial⟩ ?_
  refine WL.nil ?_
  refine QT.n ?_
  refine WC.cond rfl (fun h2 => ?_) (fun h2 => ?_)
  · replace H := of_t H h2
    refine WC.seq ?_
    refine WC.region ?_
    refine WL.run 1 tt_ok sg0 rfl rfl trivial ?_
    refine WL.nil ?_
    refine QT.n ?_
    refine WC.ret ?_
    refine QT.r ?_
    cases H
    exact Ends.auto rfl rfl rfl trivial
  replace H := of_f H h2
  refine WC.skip ?_
  refine QT.n ?_
  refine WC.seq ?_
  refine WC.seq ?_
  refine WC.region ?_
  refine WL.run 4 tt_ok sg0 rfl rfl trivial ?_
  refine WL.sect 4 3 true tt_ok sg0 rfl rfl (fun _ => trivial) ?_
  refine WL.sect 3 7 false tt_ok sg0 rfl rfl (fun _ => trivial) ?_
  refine WL.sect 1 3 true tt_ok sg0 rfl rfl (fun hb => ⟨by first | exact id | exact ⟨hb, fun h => by rw [hb, h]; rfl⟩ | exact ⟨hb, id⟩ | exact fun h => by rw [hb, h]; rfl | exact fun h => by rw [h]; rfl | simp_all, trivial⟩) ?_
  refine WL.run 1 tt_ok sg0 rfl rfl ⟨by first | exact id | exact fun h => by rw [h]; rfl | simp_all, trivial⟩ ?_
  refine WL.nil ?_
  refine QT.n ?_
  refine WC.cond rfl (fun h3 => ?_) (fun h3 => ?_)
  · replace H := of_t H h3
    refine WC.seq ?_
    refine WC.region ?_
    refine WL.run 1 tt_ok sg0 rfl rfl trivial ?_
    refine WL.nil ?_
    refine QT.n ?_
    refine WC.ret ?_
    refine QT.r ?_
    cases H
    exact Ends.auto rfl rfl rfl trivial
  replace H := of_f H h3
  refine WC.skip ?_
  refine QT.n ?_
  refine WC.seq ?_
  refine WC.seq ?_
  refine WC.region ?_
  refine WL.run 4 tt_ok sg0 rfl rfl trivial ?_
  obtain ⟨x4, hx4, H⟩ := of_bind H
  refine WL.sect 5 3 true tt_ok [PSig.at' ref03_Fits_f ((iEq a1.Kind 7) = true) rfl (fun hb => ref03_Fits_0 _ (of_t hx4 hb))] rfl rfl (fun hb => ⟨⟨hb, rfl⟩, trivial⟩) ?_
  obtain ⟨x5, hx5, H⟩ := of_bind H
  refine WL.sect 5 8 false tt_ok [PSig.at' ref08_Fits_f (((iEq a1.Kind 7) && !(!x4)) = true) rfl (fun hb => ref08_Fits_0 _ _ _ (of_t hx5 hb))] rfl rfl (fun hb => ⟨⟨hb, rfl⟩, trivial⟩) ?_
  refine WL.sect 1 3 true tt_ok sg0 rfl rfl (fun hb => ⟨by first | exact id | exact ⟨hb, fun h => by rw [hb, h]; rfl⟩ | exact ⟨hb, id⟩ | exact fun h => by rw [hb, h]; rfl | exact fun h => by rw [h]; rfl | simp_all, trivial⟩) ?_
  refine WL.run 1 tt_ok sg0 rfl rfl ⟨by first | exact id | exact fun h => by rw [h]; rfl | simp_all, trivial⟩ ?_
  refine WL.nil ?_
  refine QT.n ?_
  refine WC.cond rfl (fun h6 => ?_) (fun h6 => ?_)
  · replace H := of_t H h6
    refine WC.seq ?_
    refine WC.region ?_
    refine WL.run 1 tt_ok sg0 rfl rfl trivial ?_
    refine WL.nil ?_
    refine QT.n ?_
    refine WC.ret ?_
    refine QT.r ?_
    cases H
    exact Ends.auto rfl rfl rfl trivial
  replace H := of_f H h6
  refine WC.skip ?_
  refine QT.n ?_
  refine WC.seq ?_
  refine WC.seq ?_
  refine WC.region ?_
  refine WL.run 4 tt_ok sg0 rfl rfl trivial ?_
  refine WL.sect 3 3 true tt_ok sg0 rfl rfl (fun _ => trivial) ?_
  refine WL.run 2 tt_ok sg0 rfl rfl ⟨by first | exact id | exact fun h => by rw [h]; rfl | simp_all, trivial⟩ ?_
  refine WL.sect 3 8 true tt_ok sg0 rfl rfl (fun _ => trivial) ?_
  refine WL.run 2 tt_ok sg0 rfl rfl ⟨by first | exact id | exact fun h => by rw [h]; rfl | simp_all, trivial⟩ ?_
  refine WL.sect 4 13 false tt_ok sg0 rfl rfl (fun _ => trivial) ?_
  refine WL.sect 3 17 true tt_ok sg0 rfl rfl (fun _ => trivial) ?_
  refine WL.sect 2 13 false tt_ok sg0 rfl rfl (fun hb => ⟨by first | exact id | exact ⟨hb, fun h => by rw [hb, h]; rfl⟩ | exact ⟨hb, id⟩ | exact fun h => by rw [hb, h]; rfl | exact fun h => by rw [h]; rfl | simp_all, trivial⟩) ?_
  refine WL.sect 3 22 true tt_ok sg0 rfl rfl (fun _ => trivial) ?_
  refine WL.sect 2 13 false tt_ok sg0 rfl rfl (fun hb => ⟨by first | exact id | exact ⟨hb, fun h => by rw [hb, h]; rfl⟩ | exact ⟨hb, id⟩ | exact fun h => by rw [hb, h]; rfl | exact fun h => by rw [h]; rfl | simp_all, trivial⟩) ?_
  refine WL.sect 3 27 true tt_ok sg0 rfl rfl (fun _ => trivial) ?_
  refine WL.sect 1 13 false tt_ok sg0 rfl rfl (fun hb => ⟨by first | exact id | exact ⟨hb, fun h => by rw [hb, h]; rfl⟩ | exact ⟨hb, id⟩ | exact fun h => by rw [hb, h]; rfl | exact fun h => by rw [h]; rfl | simp_all, trivial⟩) ?_
  refine WL.run 1 tt_ok sg0 rfl rfl ⟨by first | exact id | exact fun h => by rw [h]; rfl | simp_all, trivial⟩ ?_
  refine WL.nil ?_
  refine QT.n ?_
  refine WC.cond rfl (fun h7 => ?_) (fun h7 => ?_)
  · replace H := of_t H h7
    refine WC.seq ?_
    refine WC.region ?_
    refine WL.run 1 tt_ok sg0 rfl rfl trivial ?_
    refine WL.nil ?_
    refine QT.n ?_
    refine WC.ret ?_
    refine QT.r ?_
    cases H
    exact Ends.auto rfl rfl rfl trivial
  replace H := of_f H h7
  refine WC.skip ?_
  refine QT.n ?_
  refine WC.seq ?_
  refine WC.region ?_
  refine WL.run 1 tt_ok sg0 rfl rfl trivial ?_
  refine WL.nil ?_
  refine QT.n ?_
  refine WC.ret ?_
  cases H
  exact Ends.auto rfl rfl rfl trivial
theorem ref08_one_f : hasFunc Try.prog 20 Try.f20 := ⟨Try.func20, rfl, by kernel_rfl⟩

/-! ### logjam/logjamref08.Check -/
theorem ref08_Check_0 (a0 : List T_api_Decl) {r : Int × Int} (H : ref08_Check a0 = some r) : LJ.Spec Try.prog 11 [.d (slT enc_api_Decl a0)] [] (.tup [.d (.int .i64 r.1), .d (.int .i64 r.2)]) [] := by
  refine LJ.Spec.code Try.func11 rfl 25 rfl rfl [] rfl fun w0 F0 S0 B0 => ?_
  unfold ref08_Check at H
  refine WC.seq ?_
  refine WC.region ?_
  refine WL.run 2 tt_ok sg0 rfl rfl trivial ?_
  refine WL.nil ?_
  refine QT.n ?_
  refine WC.seq ?_
  refine WC.seq ?_
  refine WC.region ?_
  refine WL.run 3 tt_ok sg0 rfl rfl trivial ?_
  refine WL.nil ?_
  refine QT.n ?_
  refine WC.cond rfl (fun h1 => ?_) (fun h1 => ?_)
  · replace H := of_t H h1
    refine WC.seq ?_
    refine WC.region ?_
    refine WL.run 2 tt_ok sg0 rfl rfl trivial ?_
    refine WL.nil ?_
    refine QT.n ?_
    refine WC.ret ?_
    refine QT.r ?_
    cases H
    exact Ends.auto rfl rfl rfl trivial
  replace H := of_f H h1
  refine WC.skip ?_
  refine QT.n ?_
  refine WC.seq ?_
  refine WC.seq ?_
  refine WC.region ?_
  refine WL.run 1 tt_ok sg0 rfl rfl trivial ?_
  refine WL.nil ?_
  refine QT.n ?_
  refine WC.block ?_
  refine WC.loop (ι := {x : Nat × Int // ref08_Check_l3 a0 x.1 x.2 = some r}) (fun x => [(0, .d (slT enc_api_Decl a0)), (4, .d (.int .i64 x.1.2))]) (fun x => []) (fun x => x.1.1) ⟨(fuel, 0), H⟩ (Less.mk' ⟨rfl, rfl, trivial⟩ trivial) fun x => ?_
  obtain ⟨⟨k3, s2⟩, H⟩ := x
  rcases k3 with _ | k3
  · exact of_none H
  rw [ref08_Check_l3] at H
  refine WC.seq ?_
  refine WC.seq ?_
  refine WC.region ?_
  refine WL.run 4 tt_ok sg0 rfl rfl trivial ?_
  refine WL.nil ?_
  refine QT.n ?_
  refine WC.cond rfl (fun h4 => ?_) (fun h4 => ?_)
  · replace H := of_t H h4
    refine WC.skip ?_
    refine QT.n ?_
    refine WC.seq ?_
    refine WC.block ?_
    refine WC.seq ?_
    refine WC.region ?_
    obtain ⟨g5, H⟩ := of_need H
    refine WL.run 5 tt_ok sg0 rfl rfl ⟨⟨(nIn_ok g5).1, (nIn_ok g5).2, rfl⟩, trivial⟩ ?_
    obtain ⟨x6, hx6, H⟩ := of_bind H
    refine WL.call [] (ref08_one_0 _ _ hx6) ref08_one_f rfl rfl trivial rfl rfl rfl ?_
    refine WL.run 1 tt_ok sg0 rfl rfl trivial ?_
    refine WL.nil ?_
    refine QT.n ?_
    refine WC.seq ?_
    refine WC.region ?_
    refine WL.run 2 tt_ok sg0 rfl rfl trivial ?_
    refine WL.nil ?_
    refine QT.n ?_
    refine WC.cond rfl (fun h7 => ?_) (fun h7 => ?_)
    · replace H := of_t H h7
      refine WC.seq ?_
      refine WC.region ?_
      refine WL.run 4 tt_ok sg0 rfl rfl trivial ?_
      refine WL.nil ?_
      refine QT.n ?_
      refine WC.ret ?_
      refine QB.r (QT.r (QT.r (QB.r (QT.r ?_))))
      cases H
      exact Ends.auto rfl rfl rfl trivial
    replace H := of_f H h7
    refine WC.skip ?_
    refine QB.n (QT.n ?_)
    refine WC.region ?_
    refine WL.run 3 tt_ok sg0 rfl rfl trivial ?_
    refine WL.nil ?_
    refine QT.n ?_
    exact ⟨⟨(k3, IntKind.i64.wrap (s2 + 1)), H⟩, Nat.lt_succ_self _, Less.mk' ⟨rfl, rfl, trivial⟩ trivial⟩
  replace H := of_f H h4
  refine WC.exit ?_
  refine QT.x (QT.x (QB.hit (QT.n ?_)))
  refine WC.seq ?_
  refine WC.region ?_
  refine WL.run 2 tt_ok sg0 rfl rfl trivial ?_
  refine WL.nil ?_
  refine QT.n ?_
  refine WC.ret ?_
  cases H
  exact Ends.auto rfl rfl rfl trivial
theorem ref08_Check_f : hasFunc Try.prog 11 Try.f11 := ⟨Try.func11, rfl, by kernel_rfl⟩

/-! ### logjam/logjamref09.one -/
theorem ref09_one_0 (a0 : List T_api_Decl) (a1 : T_api_Need) {r : Int} (H : ref09_one a0 a1 = some r) : LJ.Spec Try.prog 21 [.d (slT enc_api_Decl a0), .d (.agg [.int .i64 a1.Kind, .int .i64 a1.Obj, .int .i64 a1.N])] [] (.d (.int .i64 r)) [] := by
  refine LJ.Spec.code Try.func21 rfl 69 rfl rfl [] rfl fun w0 F0 S0 B0 => ?_
  unfold ref09_one at H
  refine WC.seq ?_
  refine WC.region ?_
  refine WL.eff 103 tt_ok et_ok eg0 rfl rfl rfl trivial ?_
  refine WL.run 1 tt_ok sg0 rfl rfl trivial ?_
  refine WL.nil ?_
  refine QT.n ?_
  refine WC.seq ?_
  refine WC.seq ?_
  refine WC.region ?_
  refine WL.run 4 tt_ok sg0 rfl rfl trivial ?_
  refine WL.sect 3 3 false tt_ok sg0 rfl rfl (fun _ => trivial) ?_
  refine WL.run 1 tt_ok sg0 rfl rfl ⟨by first | exact id | exact fun h => by rw [h]; rfl | simp_all, trivial⟩ ?_
  refine WL.nil ?_
  refine QT.n ?_
  refine WC.cond rfl (fun h1 => ?_) (fun h1 => ?_)
  · replace H := of_t H h1
    refine WC.seq ?_
    refine WC.region ?_
    refine WL.run 1 tt_ok sg0 rfl rfl trivial ?_
    refine WL.nil ?_
    refine QT.n ?_
    refine WC.ret ?_
    refine QT.r ?_
    cases H
    exact Ends.auto rfl rfl rfl trivial
  replace H := of_f H h1
  refine WC.skip ?_
  refine QT.n ?_
  refine WC.seq ?_
  refine WC.region ?_
  refine WL.eff 116 tt_ok et_ok eg0 rfl rfl rfl trivial ?_
  refine WL.freezeT 116 enc_i64 ([0, 1, 2, 2, 3, 6] : List Int) rfl rfl rfl rfl ?_
  refine WL.run 1 tt_ok sg0 rfl rfl trivial ?_
  refine WL.nil ?_
  refine QT.n ?_
  refine WC.seq ?_
  refine WC.seq ?_
  refine WC.heldP (.one 0 true (.one 1 true (.one 2 true (.one 3 true (.one 4 true (.one 5 true (.one 6 true (.one 7 true (.one 8 true (.one 9 true (.one 10 true (.one 11 true (.one 12 true (.one 13 true (.one 14 true (.one 15 true (.one 16 true (.one 17 true (.one 18 true (.one 19 true (.one 20 true (.one 21 true (.one 22 true (.one 23 true .done)))))))))))))))))))))))) [103] [103] rfl (by kernel_rfl) rfl (by kernel_rfl) rfl rfl (fun _ h => h) rfl rfl rfl (fun _ _ _ h => h) fun FK NK wK K => ?_
  refine WH.run 4 tt_ok rfl rfl rfl rfl trivial ?_
  refine WH.sect 5 3 false tt_ok rfl rfl rfl rfl (fun _ => trivial) ?_
  refine WH.run 2 tt_ok rfl rfl rfl rfl ⟨by first | exact id | exact fun h => by rw [h]; rfl | simp_all, trivial⟩ ?_
  obtain ⟨g2, H⟩ := of_needS H
  obtain ⟨g3, H⟩ := of_needS H
  refine WH.sect 12 10 false tt_ok rfl rfl rfl rfl (fun hb => ⟨⟨(nIn_ok (g2 hb)).1, (nIn_ok (g2 hb)).2, rfl⟩, ⟨(nIn_ok (g3 hb)).1, (nIn_ok (g3 hb)).2, rfl⟩, trivial⟩) ?_
  refine WH.run 1 tt_ok rfl rfl rfl rfl ⟨by first | exact id | exact fun h => by rw [h]; rfl | simp_all, trivial⟩ ?_
  refine WH.nil rfl ?_
  refine QT.n ?_
  refine WC.cond rfl (fun h4 => ?_) (fun h4 => ?_)
  · replace H := of_t H h4
    refine WC.seq ?_
    refine WC.region ?_
    refine WL.run 1 tt_ok sg0 rfl rfl trivial ?_
    refine WL.nil ?_
    refine QT.n ?_
    refine WC.ret ?_
    refine QT.r ?_
    cases H
    exact Ends.auto rfl rfl rfl trivial
  replace H := of_f H h4
  refine WC.skip ?_
  refine QT.n ?_
  refine WC.seq ?_
  refine WC.region ?_
  refine WL.run 2 tt_ok sg0 rfl rfl trivial ?_
  refine WL.nil ?_
  refine QT.n ?_
  refine WC.seq ?_
  refine WC.seq ?_
  refine WC.region ?_
  refine WL.run 3 tt_ok sg0 rfl rfl trivial ?_
  refine WL.nil ?_
  refine QT.n ?_
  refine WC.cond rfl (fun h5 => ?_) (fun h5 => ?_)
  · replace H := of_t H h5
    refine WC.heldP (.one 0 true (.one 1 true (.one 2 true (.one 3 true (.one 4 true (.one 5 true (.one 6 true (.one 7 true .done)))))))) [103] [103] rfl (by kernel_rfl) rfl (by kernel_rfl) rfl rfl (fun _ h => h) rfl rfl rfl (fun _ _ _ h => h) fun FK NK wK K => ?_
    obtain ⟨g6, H⟩ := of_need H
    refine WH.run 8 tt_ok rfl rfl rfl rfl ⟨⟨(nIn_ok g6).1, (nIn_ok g6).2, rfl⟩, trivial⟩ ?_
    refine WH.nil rfl ?_
    refine QT.n ?_
    refine WC.seq ?_
    refine WC.seq ?_
    refine WC.region ?_
    refine WL.run 3 tt_ok sg0 rfl rfl trivial ?_
    refine WL.nil ?_
    refine QT.n ?_
    refine WC.cond rfl (fun h7 => ?_) (fun h7 => ?_)
    · replace H := of_t H h7
      refine WC.heldP (.one 0 true (.one 1 true (.one 2 true (.one 3 true (.one 4 true (.one 5 true (.one 6 true (.one 7 true .done)))))))) [103] [103] rfl (by kernel_rfl) rfl (by kernel_rfl) rfl rfl (fun _ h => h) rfl rfl rfl (fun _ _ _ h => h) fun FK NK wK K => ?_
      obtain ⟨g8, H⟩ := of_need H
      refine WH.run 8 tt_ok rfl rfl rfl rfl ⟨⟨(nIn_ok g8).1, (nIn_ok g8).2, rfl⟩, trivial⟩ ?_
      refine WH.nil rfl ?_
      refine QT.n ?_
      refine WC.seq ?_
      refine WC.seq ?_
      refine WC.region ?_
      refine WL.run 5 tt_ok sg0 rfl rfl trivial ?_
      refine WL.sect 4 4 false tt_ok sg0 rfl rfl (fun _ => trivial) ?_
      refine WL.run 1 tt_ok sg0 rfl rfl ⟨by first | exact id | exact fun h => by rw [h]; rfl | simp_all, trivial⟩ ?_
      refine WL.nil ?_
      refine QT.n ?_
      refine WC.cond rfl (fun h9 => ?_) (fun h9 => ?_)
      · replace H := of_t H h9
        refine WC.seq ?_
        refine WC.region ?_
        refine WL.run 1 tt_ok sg0 rfl rfl trivial ?_
        refine WL.nil ?_
        refine QT.n ?_
        refine WC.ret ?_
        refine QT.r ?_
        cases H
        exact Ends.auto rfl rfl rfl trivial
      replace H := of_f H h9
      refine WC.skip ?_
      refine QT.n ?_
      refine WC.seq ?_
      refine WC.region ?_
      refine WL.run 1 tt_ok sg0 rfl rfl trivial ?_
      refine WL.nil ?_
      refine QT.n ?_
      refine WC.ret ?_
      cases H
      exact Ends.auto rfl rfl rfl trivial
    replace H := of_f H h7
    refine WC.skip ?_
    refine QT.n ?_
    refine WC.seq ?_
    refine WC.seq ?_
    refine WC.region ?_
    refine WL.run 5 tt_ok sg0 rfl rfl trivial ?_
    refine WL.sect 4 4 false tt_ok sg0 rfl rfl (fun _ => trivial) ?_
    refine WL.run 1 tt_ok sg0 rfl rfl ⟨by first | exact id | exact fun h => by rw [h]; rfl | simp_all, trivial⟩ ?_
    refine WL.nil ?_
    refine QT.n ?_
    refine WC.cond rfl (fun h10 => ?_) (fun h10 => ?_)
    · replace H := of_t H h10
      refine WC.seq ?_
      refine WC.region ?_
      refine WL.run 1 tt_ok sg0 rfl rfl trivial ?_
      refine WL.nil ?_
      refine QT.n ?_
      refine WC.ret ?_
      refine QT.r ?_
      cases H
      exact Ends.auto rfl rfl rfl trivial
    replace H := of_f H h10
    refine WC.skip ?_
    refine QT.n ?_
    refine WC.seq ?_
    refine WC.region ?_
    refine WL.run 1 tt_ok sg0 rfl rfl trivial ?_
    refine WL.nil ?_
    refine QT.n ?_
    refine WC.ret ?_
    cases H
    exact Ends.auto rfl rfl rfl trivial
  replace H := of_f H h5
  refine WC.skip ?_
  refine QT.n ?_
  refine WC.seq ?_
  refine WC.seq ?_
  refine WC.region ?_
  refine WL.run 3 tt_ok sg0 rfl rfl trivial ?_
  refine WL.nil ?_
  refine QT.n ?_
  refine WC.cond rfl (fun h11 => ?_) (fun h11 => ?_)
  · replace H := of_t H h11
    refine WC.heldP (.one 0 true (.one 1 true (.one 2 true (.one 3 true (.one 4 true (.one 5 true (.one 6 true (.one 7 true .done)))))))) [103] [103] rfl (by kernel_rfl) rfl (by kernel_rfl) rfl rfl (fun _ h => h) rfl rfl rfl (fun _ _ _ h => h) fun FK NK wK K => ?_
    obtain ⟨g12, H⟩ := of_need H
    refine WH.run 8 tt_ok rfl rfl rfl rfl ⟨⟨(nIn_ok g12).1, (nIn_ok g12).2, rfl⟩, trivial⟩ ?_
    refine WH.nil rfl ?_
    refine QT.n ?_
    refine WC.seq ?_
    refine WC.seq ?_
    refine WC.region ?_
    refine WL.run 5 tt_ok sg0 rfl rfl trivial ?_
    refine WL.sect 4 4 false tt_ok sg0 rfl rfl (fun _ => trivial) ?_
    refine WL.run 1 tt_ok sg0 rfl rfl ⟨by first | exact id | exact fun h => by rw [h]; rfl | simp_all, trivial⟩ ?_
    refine WL.nil ?_
    refine QT.n ?_
    refine WC.cond rfl (fun h13 => ?_) (fun h13 => ?_)
    · replace H := of_t H h13
      refine WC.seq ?_
      refine WC.region ?_
      refine WL.run 1 tt_ok sg0 rfl rfl trivial ?_
      refine WL.nil ?_
      refine QT.n ?_
      refine WC.ret ?_
      refine QT.r ?_
      cases H
      exact Ends.auto rfl rfl rfl trivial
    replace H := of_f H h13
    refine WC.skip ?_
    refine QT.n ?_
    refine WC.seq ?_
    refine WC.region ?_
    refine WL.run 1 tt_ok sg0 rfl rfl trivial ?_
    refine WL.nil ?_
    refine QT.n ?_
    refine WC.ret ?_
    cases H
    exact Ends.auto rfl rfl rfl trivial
  replace H := of_f H h11
  refine WC.skip ?_
  refine QT.n ?_
  refine WC.seq ?_
  refine WC.seq ?_
  refine WC.region ?_
  refine WL.run 5 tt_ok sg0 rfl rfl trivial ?_
  refine WL.sect 4 4 false tt_ok sg0 rfl rfl (fun _ => trivial) ?_
  refine WL.run 1 tt_ok sg0 rfl rfl ⟨by first | exact id | exact fun h => by rw [h]; rfl | simp_all, trivial⟩ ?_
  refine WL.nil ?_
  refine QT.n ?_
  refine WC.cond rfl (fun h14 => ?_) (fun h14 => ?_)
  · replace H := of_t H h14
    refine WC.seq ?_
    refine WC.region ?_
    refine WL.run 1 tt_ok sg0 rfl rfl trivial ?_
    refine WL.nil ?_
    refine QT.n ?_
    refine WC.ret ?_
    refine QT.r ?_
    cases H
    exact Ends.auto rfl rfl rfl trivial
  replace H := of_f H h14
  refine WC.skip ?_
  refine QT.n ?_
  refine WC.seq ?_
  refine WC.region ?_
  refine WL.run 1 tt_ok sg0 rfl rfl trivial ?_
  refine WL.nil ?_
  refine QT.n ?_
  refine WC.ret ?_
  cases H
  exact Ends.auto rfl rfl rfl trivial
theorem ref09_one_f : hasFunc Try.prog 21 Try.f21 := ⟨Try.func21, rfl, by kernel_rfl⟩

/-! ### logjam/logjamref09.Check -/
theorem ref09_Check_0 (a0 : List T_api_Decl) (a1 : List (List T_api_Need)) {r : Int} (H : ref09_Check a0 a1 = some r) : LJ.Spec Try.prog 12 [.d (slT enc_api_Decl a0), .d (slT enc_sl_api_Need a1)] [] (.d (.int .i64 r)) [] := by
  refine LJ.Spec.code Try.func12 rfl 86 rfl rfl [] rfl fun w0 F0 S0 B0 => ?_
  unfold ref09_Check at H
  refine WC.seq ?_
  refine WC.region ?_
  refine WL.run 1 tt_ok sg0 rfl rfl trivial ?_
  refine WL.nil ?_
  refine QT.n ?_
  refine WC.seq ?_
  refine WC.seq ?_
  refine WC.region ?_
  refine WL.run 3 tt_ok sg0 rfl rfl trivial ?_
  refine WL.nil ?_
  refine QT.n ?_
  refine WC.cond rfl (fun h1 => ?_) (fun h1 => ?_)
  · replace H := of_t H h1
    refine WC.seq ?_
    refine WC.region ?_
    refine WL.run 1 tt_ok sg0 rfl rfl trivial ?_
    refine WL.nil ?_
    refine QT.n ?_
    refine WC.ret ?_
    refine QT.r ?_
    cases H
    exact Ends.auto rfl rfl rfl trivial
  replace H := of_f H h1
  refine WC.skip ?_
  refine QT.n ?_
  refine WC.seq ?_
  refine WC.seq ?_
  refine WC.region ?_
  refine WL.run 3 tt_ok sg0 rfl rfl trivial ?_
  refine WL.nil ?_
  refine QT.n ?_
  refine WC.cond rfl (fun h2 => ?_) (fun h2 => ?_)
  · replace H := of_t H h2
    refine WC.seq ?_
    refine WC.region ?_
    refine WL.run 1 tt_ok sg0 rfl rfl trivial ?_
    refine WL.nil ?_
    refine QT.n ?_
    refine WC.ret ?_
    refine QT.r ?_
    cases H
    exact Ends.auto rfl rfl rfl trivial
  replace H := of_f H h2
  refine WC.skip ?_
  refine QT.n ?_
  refine WC.seq ?_
  refine WC.seq ?_
  refine WC.region ?_
  refine WL.run 1 tt_ok sg0 rfl rfl trivial ?_
  refine WL.nil ?_
  refine QT.n ?_
  refine WC.block ?_
  refine WC.loop (ι := {x : Nat × Int // ref09_Check_l4 a0 a1 x.1 x.2 = some r}) (fun x => [(0, .d (slT enc_api_Decl a0)), (1, .d (slT enc_sl_api_Need a1)), (5, .d (.int .i64 x.1.2))]) (fun x => []) (fun x => x.1.1) ⟨(fuel, 0), H⟩ (Less.mk' ⟨rfl, rfl, rfl, trivial⟩ trivial) fun x => ?_
  obtain ⟨⟨k4, s3⟩, H⟩ := x
  rcases k4 with _ | k4
  · exact of_none H
  rw [ref09_Check_l4] at H
  refine WC.seq ?_
  refine WC.seq ?_
  refine WC.region ?_
  refine WL.run 4 tt_ok sg0 rfl rfl trivial ?_
  refine WL.nil ?_
  refine QT.n ?_
  refine WC.cond rfl (fun h5 => ?_) (fun h5 => ?_)
  · replace H := of_t H h5
    refine WC.skip ?_
    refine QT.n ?_
    obtain ⟨K6, hK6, H⟩ := of_withK H
    refine WC.cut (fun E m => ∃ s7 : Unit, K6 s7 = some r ∧ LessW E m [(0, .d (slT enc_api_Decl a0)), (1, .d (slT enc_sl_api_Need a1)), (5, .d (.int .i64 s3))] []) ?_ ?_
    · refine WC.block ?_
      refine WC.seq ?_
      refine WC.region ?_
      obtain ⟨g8, H⟩ := of_need H
      refine WL.run 5 tt_ok sg0 rfl rfl ⟨⟨(nIn_ok g8).1, (nIn_ok g8).2, rfl⟩, trivial⟩ ?_
      refine WL.nil ?_
      refine QT.n ?_
      refine WC.seq ?_
      refine WC.seq ?_
      refine WC.region ?_
      refine WL.run 3 tt_ok sg0 rfl rfl trivial ?_
      refine WL.nil ?_
      refine QT.n ?_
      refine WC.cond rfl (fun h9 => ?_) (fun h9 => ?_)
      · replace H := of_t H h9
        refine WC.seq ?_
        refine WC.region ?_
        refine WL.run 1 tt_ok sg0 rfl rfl trivial ?_
        refine WL.nil ?_
        refine QT.n ?_
        refine WC.ret ?_
        refine QT.r (QB.r (QT.r (QT.r (QB.r (QT.r ?_)))))
        cases H
        exact Ends.auto rfl rfl rfl trivial
      replace H := of_f H h9
      refine WC.skip ?_
      refine QT.n ?_
      refine WC.seq ?_
      refine WC.seq ?_
      refine WC.region ?_
      refine WL.run 3 tt_ok sg0 rfl rfl trivial ?_
      refine WL.nil ?_
      refine QT.n ?_
      refine WC.cond rfl (fun h10 => ?_) (fun h10 => ?_)
      · replace H := of_t H h10
        refine WC.seq ?_
        refine WC.region ?_
        refine WL.run 1 tt_ok sg0 rfl rfl trivial ?_
        refine WL.nil ?_
        refine QT.n ?_
        refine WC.ret ?_
        refine QT.r (QB.r (QT.r (QT.r (QB.r (QT.r ?_)))))
        cases H
        exact Ends.auto rfl rfl rfl trivial
      replace H := of_f H h10
      refine WC.skip ?_
      refine QT.n ?_
      refine WC.seq ?_
      refine WC.seq ?_
      refine WC.region ?_
      refine WL.run 1 tt_ok sg0 rfl rfl trivial ?_
      refine WL.nil ?_
      refine QT.n ?_
      refine WC.block ?_
      refine WC.loop (ι := {x : Nat × Int // ref09_Check_l12 a0 a1 s3 K6 x.1 x.2 = some r}) (fun x => [(0, .d (slT enc_api_Decl a0)), (1, .d (slT enc_sl_api_Need a1)), (5, .d (.int .i64 s3)), (6, .d (slT enc_api_Need (a1.getD s3.toNat default))), (7, .d (.int .i64 x.1.2))]) (fun x => []) (fun x => x.1.1) ⟨(fuel, 0), H⟩ (Less.mk' ⟨rfl, rfl, rfl, rfl, rfl, trivial⟩ trivial) fun x => ?_
      obtain ⟨⟨k12, s11⟩, H⟩ := x
      rcases k12 with _ | k12
      · exact of_none H
      rw [ref09_Check_l12] at H
      refine WC.seq ?_
      refine WC.seq ?_
      refine WC.region ?_
      refine WL.run 4 tt_ok sg0 rfl rfl trivial ?_
      refine WL.nil ?_
      refine QT.n ?_
      refine WC.cond rfl (fun h13 => ?_) (fun h13 => ?_)
      · replace H := of_t H h13
        refine WC.skip ?_
        refine QT.n ?_
        refine WC.seq ?_
        refine WC.block ?_
        refine WC.seq ?_
        refine WC.region ?_
        obtain ⟨g14, H⟩ := of_need H
        refine WL.run 5 tt_ok sg0 rfl rfl ⟨⟨(nIn_ok g14).1, (nIn_ok g14).2, rfl⟩, trivial⟩ ?_
        obtain ⟨x15, hx15, H⟩ := of_bind H
        refine WL.call [] (ref09_one_0 _ _ hx15) ref09_one_f rfl rfl trivial rfl rfl rfl ?_
        refine WL.run 1 tt_ok sg0 rfl rfl trivial ?_
        refine WL.nil ?_
        refine QT.n ?_
        refine WC.seq ?_
        refine WC.region ?_
        refine WL.run 2 tt_ok sg0 rfl rfl trivial ?_
        refine WL.nil ?_
        refine QT.n ?_
        refine WC.cond rfl (fun h16 => ?_) (fun h16 => ?_)
        · replace H := of_t H h16
          refine WC.seq ?_
          refine WC.region ?_
          refine WL.run 2 tt_ok sg0 rfl rfl trivial ?_
          refine WL.nil ?_
          refine QT.n ?_
          refine WC.ret ?_
          refine QB.r (QT.r (QT.r (QB.r (QT.r (QB.r (QT.r (QT.r (QB.r (QT.r ?_)))))))))
          cases H
          exact Ends.auto rfl rfl rfl trivial
        replace H := of_f H h16
        refine WC.skip ?_
        refine QB.n (QT.n ?_)
        refine WC.region ?_
        refine WL.run 3 tt_ok sg0 rfl rfl trivial ?_
        refine WL.nil ?_
        refine QT.n ?_
        exact ⟨⟨(k12, IntKind.i64.wrap (s11 + 1)), H⟩, Nat.lt_succ_self _, Less.mk' ⟨rfl, rfl, rfl, rfl, rfl, trivial⟩ trivial⟩
      replace H := of_f H h13
      refine WC.exit ?_
      refine QT.x (QT.x (QB.hit (QT.n ?_)))
      refine WC.seq ?_
      refine WC.region ?_
      refine WL.run 1 tt_ok sg0 rfl rfl trivial ?_
      refine WL.nil ?_
      refine QT.n ?_
      refine WC.block ?_
      refine WC.loop (ι := {x : Nat × Int // ref09_Check_l18 a1 s3 K6 x.1 x.2 = some r}) (fun x => [(0, .d (slT enc_api_Decl a0)), (1, .d (slT enc_sl_api_Need a1)), (5, .d (.int .i64 s3)), (6, .d (slT enc_api_Need (a1.getD s3.toNat default))), (9, .d (.int .i64 x.1.2))]) (fun x => []) (fun x => x.1.1) ⟨(fuel, 0), H⟩ (Less.mk' ⟨rfl, rfl, rfl, rfl, rfl, trivial⟩ trivial) fun x => ?_
      obtain ⟨⟨k18, s17⟩, H⟩ := x
      rcases k18 with _ | k18
      · exact of_none H
      rw [ref09_Check_l18] at H
      refine WC.seq ?_
      refine WC.seq ?_
      refine WC.region ?_
      refine WL.run 4 tt_ok sg0 rfl rfl trivial ?_
      refine WL.nil ?_
      refine QT.n ?_
      refine WC.cond rfl (fun h19 => ?_) (fun h19 => ?_)
      · replace H := of_t H h19
        refine WC.skip ?_
        refine QT.n ?_
        obtain ⟨K20, hK20, H⟩ := of_withK H
        refine WC.cut (fun E m => ∃ s21 : Unit, K20 s21 = some r ∧ LessW E m [(0, .d (slT enc_api_Decl a0)), (1, .d (slT enc_sl_api_Need a1)), (5, .d (.int .i64 s3)), (6, .d (slT enc_api_Need (a1.getD s3.toNat default))), (9, .d (.int .i64 s17))] []) ?_ ?_
        · refine WC.block ?_
          refine WC.seq ?_
          refine WC.region ?_
          refine WL.run 1 tt_ok sg0 rfl rfl trivial ?_
          refine WL.nil ?_
          refine QT.n ?_
          refine WC.block ?_
          refine WC.loop (ι := {x : Nat × Int // ref09_Check_l23 a1 s3 s17 K20 x.1 x.2 = some r}) (fun x => [(0, .d (slT enc_api_Decl a0)), (1, .d (slT enc_sl_api_Need a1)), (5, .d (.int .i64 s3)), (6, .d (slT enc_api_Need (a1.getD s3.toNat default))), (9, .d (.int .i64 s17)), (10, .d (.int .i64 x.1.2))]) (fun x => []) (fun x => x.1.1) ⟨(fuel, 0), H⟩ (Less.mk' ⟨rfl, rfl, rfl, rfl, rfl, rfl, trivial⟩ trivial) fun x => ?_
          obtain ⟨⟨k23, s22⟩, H⟩ := x
          rcases k23 with _ | k23
          · exact of_none H
          rw [ref09_Check_l23] at H
          refine WC.seq ?_
          refine WC.seq ?_
          refine WC.region ?_
          refine WL.run 3 tt_ok sg0 rfl rfl trivial ?_
          refine WL.nil ?_
          refine QT.n ?_
          refine WC.cond rfl (fun h24 => ?_) (fun h24 => ?_)
          · replace H := of_t H h24
            refine WC.skip ?_
            refine QT.n ?_
            refine WC.seq ?_
            refine WC.block ?_
            refine WC.seq ?_
            refine WC.heldP (.one 0 true (.one 1 true (.one 2 true (.one 3 true (.one 4 true (.one 5 true (.one 6 true (.one 7 true (.one 8 true (.one 9 true (.one 10 true (.one 11 true (.one 12 true (.one 13 true (.one 14 true (.one 15 true (.one 16 true (.one 17 true (.one 18 true (.one 19 true (.one 20 true (.one 21 true (.one 22 true (.one 23 true (.one 24 true (.one 25 true (.one 26 true .done))))))))))))))))))))))))))) [] [] rfl (by kernel_rfl) rfl (by kernel_rfl) rfl rfl (fun _ h => h) rfl rfl rfl (fun _ _ _ h => h) fun FK NK wK K => ?_
            obtain ⟨g25, H⟩ := of_need H
            obtain ⟨g26, H⟩ := of_need H
            refine WH.run 12 tt_ok rfl rfl rfl rfl ⟨⟨(nIn_ok g25).1, (nIn_ok g25).2, rfl⟩, ⟨(nIn_ok g26).1, (nIn_ok g26).2, rfl⟩, trivial⟩ ?_
            obtain ⟨g27, H⟩ := of_needS H
            refine WH.sect 6 11 false tt_ok rfl rfl rfl rfl (fun hb => ⟨⟨(nIn_ok (g27 hb)).1, (nIn_ok (g27 hb)).2, rfl⟩, trivial⟩) ?_
            refine WH.run 2 tt_ok rfl rfl rfl rfl ⟨by first | exact id | exact fun h => by rw [h]; rfl | simp_all, trivial⟩ ?_
            obtain ⟨g28, H⟩ := of_needS H
            refine WH.sect 6 19 false tt_ok rfl rfl rfl rfl (fun hb => ⟨⟨(nIn_ok (g28 hb)).1, (nIn_ok (g28 hb)).2, rfl⟩, trivial⟩) ?_
            refine WH.run 1 tt_ok rfl rfl rfl rfl ⟨by first | exact id | exact fun h => by rw [h]; rfl | simp_all, trivial⟩ ?_
            refine WH.nil rfl ?_
            refine QT.n ?_
            refine WC.cond rfl (fun h29 => ?_) (fun h29 => ?_)
            · replace H := of_t H h29
              refine WC.seq ?_
              refine WC.region ?_
              refine WL.run 1 tt_ok sg0 rfl rfl trivial ?_
              refine WL.nil ?_
              refine QT.n ?_
              refine WC.ret ?_
              refine QB.r (QT.r (QT.r (QB.r (QB.r (QT.r (QT.r (QB.r (QB.r (QT.r (QT.r (QB.r (QT.r ?_))))))))))))
              cases H
              exact Ends.auto rfl rfl rfl trivial
            replace H := of_f H h29
            refine WC.skip ?_
            refine QB.n (QT.n ?_)
            refine WC.region ?_
            refine WL.run 3 tt_ok sg0 rfl rfl trivial ?_
            refine WL.nil ?_
            refine QT.n ?_
            exact ⟨⟨(k23, IntKind.i64.wrap (s22 + 1)), H⟩, Nat.lt_succ_self _, Less.mk' ⟨rfl, rfl, rfl, rfl, rfl, rfl, trivial⟩ trivial⟩
          replace H := of_f H h24
          refine WC.exit ?_
          refine QT.x (QT.x (QB.hit (QB.n (QT.n ?_))))
          exact ⟨Unit.unit, H, LessW.mk' ⟨AVle.of rfl, AVle.of rfl, AVle.of rfl, AVle.of rfl, AVle.of rfl, trivial⟩ trivial⟩
        · rintro E m ⟨s21, H, hl⟩
          refine WC.lessW hl ?_
          replace H := (hK20 _).symm.trans H
          try dsimp only at H
          refine WC.region ?_
          refine WL.run 3 tt_ok sg0 rfl rfl trivial ?_
          refine WL.nil ?_
          refine QT.n ?_
          exact ⟨⟨(k18, IntKind.i64.wrap (s17 + 1)), H⟩, Nat.lt_succ_self _, Less.mk' ⟨rfl, rfl, rfl, rfl, rfl, trivial⟩ trivial⟩
      replace H := of_f H h19
      refine WC.exit ?_
      refine QT.x (QT.x (QB.hit (QB.n (QT.n ?_))))
      exact ⟨Unit.unit, H, LessW.mk' ⟨AVle.of rfl, AVle.of rfl, AVle.of rfl, trivial⟩ trivial⟩
    · rintro E m ⟨s7, H, hl⟩
      refine WC.lessW hl ?_
      replace H := (hK6 _).symm.trans H
      try dsimp only at H
      refine WC.region ?_
      refine WL.run 3 tt_ok sg0 rfl rfl trivial ?_
      refine WL.nil ?_
      refine QT.n ?_
      exact ⟨⟨(k4, IntKind.i64.wrap (s3 + 1)), H⟩, Nat.lt_succ_self _, Less.mk' ⟨rfl, rfl, rfl, trivial⟩ trivial⟩
  replace H := of_f H h5
  refine WC.exit ?_
  refine QT.x (QT.x (QB.hit (QT.n ?_)))
  refine WC.seq ?_
  refine WC.region ?_
  refine WL.run 1 tt_ok sg0 rfl rfl trivial ?_
  refine WL.nil ?_
  refine QT.n ?_
  refine WC.ret ?_
  cases H
  exact Ends.auto rfl rfl rfl trivial
theorem ref09_Check_f : hasFunc Try.prog 12 Try.f12 := ⟨Try.func12, rfl, by kernel_rfl⟩

/-! ### logjam/logjamref06.Known -/
theorem ref06_Known_0 (a0 : Int) {r : Bool} (H : ref06_Known a0 = some r) : LJ.Spec Try.prog 28 [.d (.int .i64 a0)] [] (.d (.bool r)) [] := by
  refine LJ.Spec.code Try.func28 rfl 9 rfl rfl [] rfl fun w0 F0 S0 B0 => ?_
  unfold ref06_Known at H
  refine WC.seq ?_
  refine WC.region ?_
  refine WL.run 1 tt_ok sg0 rfl rfl trivial ?_
  refine WL.nil ?_
  refine QT.n ?_
  refine WC.seq ?_
  refine WC.region ?_
  refine WL.run 3 tt_ok sg0 rfl rfl trivial ?_
  refine WL.sect 2 2 true tt_ok sg0 rfl rfl (fun _ => trivial) ?_
  refine WL.run 2 tt_ok sg0 rfl rfl ⟨by first | exact id | exact fun h => by rw [h]; rfl | simp_all, trivial⟩ ?_
  refine WL.nil ?_
  refine QT.n ?_
  refine WC.ret ?_
  cases H
  exact Ends.auto rfl rfl rfl trivial
theorem ref06_Known_f : hasFunc Try.prog 28 Try.f28 := ⟨Try.func28, rfl, by kernel_rfl⟩

/-! ### logjam/logjamref06.Forms -/
theorem ref06_Forms_0  {r : List ByteArray} (H : ref06_Forms = some r) : LJ.Spec Try.prog 39 [] [] (.d (slT enc_str r)) [] := by
  refine LJ.Spec.code Try.func39 rfl 2 rfl rfl [] rfl fun w0 F0 S0 B0 => ?_
  unfold ref06_Forms at H
  refine WC.seq ?_
  refine WC.region ?_
  refine WL.run 1 tt_ok sg0 rfl rfl trivial ?_
  refine WL.nil ?_
  refine QT.n ?_
  refine WC.seq ?_
  refine WC.region ?_
  refine WL.eff 101 tt_ok et_ok eg0 rfl rfl rfl trivial ?_
  refine WL.freezeT 101 enc_str ([(⟨#[110]⟩ : ByteArray), (⟨#[107]⟩ : ByteArray), (⟨#[107]⟩ : ByteArray), ByteArray.empty, ByteArray.empty, ByteArray.empty, ByteArray.empty, ByteArray.empty, ByteArray.empty, ByteArray.empty, ByteArray.empty, ByteArray.empty, ByteArray.empty, ByteArray.empty, ByteArray.empty, ByteArray.empty, ByteArray.empty, ByteArray.empty, (⟨#[116]⟩ : ByteArray), (⟨#[116]⟩ : ByteArray), (⟨#[102]⟩ : ByteArray), ByteArray.empty, ByteArray.empty, ByteArray.empty, ByteArray.empty, ByteArray.empty, (⟨#[119]⟩ : ByteArray), (⟨#[119]⟩ : ByteArray), ByteArray.empty, (⟨#[117]⟩ : ByteArray), (⟨#[115]⟩ : ByteArray), (⟨#[112]⟩ : ByteArray), (⟨#[99, 109]⟩ : ByteArray), (⟨#[99, 109]⟩ : ByteArray), (⟨#[99]⟩ : ByteArray), (⟨#[99]⟩ : ByteArray), (⟨#[98]⟩ : ByteArray), (⟨#[98]⟩ : ByteArray), (⟨#[98]⟩ : ByteArray), (⟨#[98]⟩ : ByteArray), (⟨#[102]⟩ : ByteArray), (⟨#[106, 106]⟩ : ByteArray), (⟨#[106, 106]⟩ : ByteArray), ByteArray.empty, ByteArray.empty, (⟨#[118]⟩ : ByteArray), (⟨#[118]⟩ : ByteArray), ByteArray.empty, ByteArray.empty, (⟨#[113]⟩ : ByteArray), (⟨#[109]⟩ : ByteArray), (⟨#[109]⟩ : ByteArray)] : List ByteArray) rfl rfl rfl rfl ?_
  refine WL.run 1 tt_ok sg0 rfl rfl trivial ?_
  refine WL.nil ?_
  refine QT.n ?_
  refine WC.ret ?_
  cases H
  exact Ends.auto rfl rfl rfl trivial
theorem ref06_Forms_f : hasFunc Try.prog 39 Try.f39 := ⟨Try.func39, rfl, by kernel_rfl⟩

/-! ### logjam/logjamref06.Form -/
theorem ref06_Form_0 (a0 : Int) {r : ByteArray} (H : ref06_Form a0 = some r) : LJ.Spec Try.prog 33 [.d (.int .i64 a0)] [] (.d (.str r)) [] := by
  refine LJ.Spec.code Try.func33 rfl 10 rfl rfl [] rfl fun w0 F0 S0 B0 => ?_
  unfold ref06_Form at H
  refine WC.seq ?_
  refine WC.region ?_
  refine WL.run 1 tt_ok sg0 rfl rfl trivial ?_
  refine WL.nil ?_
  refine QT.n ?_
  refine WC.seq ?_
  refine WC.seq ?_
  refine WC.region ?_
  refine WL.run 1 tt_ok sg0 rfl rfl trivial ?_
  obtain ⟨x1, hx1, H⟩ := of_bind H
  refine WL.call [] (ref06_Known_0 _ hx1) ref06_Known_f rfl rfl trivial rfl rfl rfl ?_
  refine WL.run 1 tt_ok sg0 rfl rfl trivial ?_
  refine WL.nil ?_
  refine QT.n ?_
  refine WC.cond rfl (fun h2 => ?_) (fun h2 => ?_)
  · replace H := of_t H h2
    refine WC.seq ?_
    refine WC.region ?_
    refine WL.run 1 tt_ok sg0 rfl rfl trivial ?_
    refine WL.nil ?_
    refine QT.n ?_
    refine WC.ret ?_
    refine QT.r ?_
    cases H
    exact Ends.auto rfl rfl rfl trivial
  replace H := of_f H h2
  refine WC.skip ?_
  refine QT.n ?_
  refine WC.seq ?_
  refine WC.region ?_
  obtain ⟨x3, hx3, H⟩ := of_bind H
  refine WL.call [] (ref06_Forms_0 hx3) ref06_Forms_f rfl rfl trivial rfl rfl rfl ?_
  obtain ⟨g4, H⟩ := of_need H
  refine WL.run 4 tt_ok sg0 rfl rfl ⟨⟨(nIn_ok g4).1, (nIn_ok g4).2, rfl⟩, trivial⟩ ?_
  refine WL.nil ?_
  refine QT.n ?_
  refine WC.ret ?_
  cases H
  exact Ends.auto rfl rfl rfl trivial
theorem ref06_Form_f : hasFunc Try.prog 33 Try.f33 := ⟨Try.func33, rfl, by kernel_rfl⟩

/-! ### logjam/logjamref07.least -/
theorem ref07_least_0 (a0 : Int) {r : Int} (H : ref07_least a0 = some r) : LJ.Spec Try.prog 34 [.d (.int .u8 a0)] [] (.d (.int .i64 r)) [] := by
  refine LJ.Spec.code Try.func34 rfl 5 rfl rfl [] rfl fun w0 F0 S0 B0 => ?_
  unfold ref07_least at H
  refine WC.seq ?_
  refine WC.region ?_
  refine WL.run 1 tt_ok sg0 rfl rfl trivial ?_
  refine WL.nil ?_
  refine QT.n ?_
  refine WC.seq ?_
  refine WC.seq ?_
  refine WC.region ?_
  refine WL.run 2 tt_ok sg0 rfl rfl trivial ?_
  refine WL.nil ?_
  refine QT.n ?_
  refine WC.cond rfl (fun h1 => ?_) (fun h1 => ?_)
  · replace H := of_t H h1
    refine WC.seq ?_
    refine WC.region ?_
    refine WL.run 1 tt_ok sg0 rfl rfl trivial ?_
    refine WL.nil ?_
    refine QT.n ?_
    refine WC.ret ?_
    refine QT.r ?_
    cases H
    exact Ends.auto rfl rfl rfl trivial
  replace H := of_f H h1
  refine WC.skip ?_
  refine QT.n ?_
  refine WC.seq ?_
  refine WC.region ?_
  refine WL.run 1 tt_ok sg0 rfl rfl trivial ?_
  refine WL.nil ?_
  refine QT.n ?_
  refine WC.ret ?_
  cases H
  exact Ends.auto rfl rfl rfl trivial
theorem ref07_least_f : hasFunc Try.prog 34 Try.f34 := ⟨Try.func34, rfl, by kernel_rfl⟩

/-! ### logjam/logjamref07.most -/
theorem ref07_most_0 (a0 : Int) {r : Int} (H : ref07_most a0 = some r) : LJ.Spec Try.prog 35 [.d (.int .u8 a0)] [] (.d (.int .i64 r)) [] := by
  refine LJ.Spec.code Try.func35 rfl 12 rfl rfl [] rfl fun w0 F0 S0 B0 => ?_
  unfold ref07_most at H
  refine WC.seq ?_
  refine WC.region ?_
  refine WL.run 1 tt_ok sg0 rfl rfl trivial ?_
  refine WL.nil ?_
  refine QT.n ?_
  refine WC.seq ?_
  refine WC.seq ?_
  refine WC.region ?_
  refine WL.run 1 tt_ok sg0 rfl rfl trivial ?_
  refine WL.nil ?_
  refine QT.n ?_
  refine WC.block ?_
  refine WC.seq ?_
  refine WC.region ?_
  refine WL.run 2 tt_ok sg0 rfl rfl trivial ?_
  refine WL.nil ?_
  refine QT.n ?_
  refine WC.cond rfl (fun h1 => ?_) (fun h1 => ?_)
  · replace H := of_t H h1
    refine WC.seq ?_
    refine WC.region ?_
    refine WL.run 1 tt_ok sg0 rfl rfl trivial ?_
    refine WL.nil ?_
    refine QT.n ?_
    refine WC.ret ?_
    refine QB.r (QT.r ?_)
    cases H
    exact Ends.auto rfl rfl rfl trivial
  replace H := of_f H h1
  refine WC.seq ?_
  refine WC.region ?_
  refine WL.run 2 tt_ok sg0 rfl rfl trivial ?_
  refine WL.nil ?_
  refine QT.n ?_
  refine WC.cond rfl (fun h2 => ?_) (fun h2 => ?_)
  · replace H := of_t H h2
    refine WC.seq ?_
    refine WC.region ?_
    refine WL.run 1 tt_ok sg0 rfl rfl trivial ?_
    refine WL.nil ?_
    refine QT.n ?_
    refine WC.ret ?_
    refine QB.r (QT.r ?_)
    cases H
    exact Ends.auto rfl rfl rfl trivial
  replace H := of_f H h2
  refine WC.seq ?_
  refine WC.region ?_
  refine WL.run 2 tt_ok sg0 rfl rfl trivial ?_
  refine WL.nil ?_
  refine QT.n ?_
  refine WC.cond rfl (fun h3 => ?_) (fun h3 => ?_)
  · replace H := of_t H h3
    refine WC.seq ?_
    refine WC.region ?_
    refine WL.run 1 tt_ok sg0 rfl rfl trivial ?_
    refine WL.nil ?_
    refine QT.n ?_
    refine WC.ret ?_
    refine QB.r (QT.r ?_)
    cases H
    exact Ends.auto rfl rfl rfl trivial
  replace H := of_f H h3
  refine WC.seq ?_
  refine WC.region ?_
  refine WL.run 2 tt_ok sg0 rfl rfl trivial ?_
  refine WL.nil ?_
  refine QT.n ?_
  refine WC.cond rfl (fun h4 => ?_) (fun h4 => ?_)
  · replace H := of_t H h4
    refine WC.seq ?_
    refine WC.region ?_
    refine WL.run 1 tt_ok sg0 rfl rfl trivial ?_
    refine WL.nil ?_
    refine QT.n ?_
    refine WC.ret ?_
    refine QB.r (QT.r ?_)
    cases H
    exact Ends.auto rfl rfl rfl trivial
  replace H := of_f H h4
  refine WC.skip ?_
  refine QB.n (QT.n ?_)
  refine WC.seq ?_
  refine WC.region ?_
  refine WL.run 1 tt_ok sg0 rfl rfl trivial ?_
  refine WL.nil ?_
  refine QT.n ?_
  refine WC.ret ?_
  cases H
  exact Ends.auto rfl rfl rfl trivial
theorem ref07_most_f : hasFunc Try.prog 35 Try.f35 := ⟨Try.func35, rfl, by kernel_rfl⟩

/-! ### logjam/logjamref07.Check -/
theorem ref07_Check_0 (a0 : T_api_Ins) {r : Int} (H : ref07_Check a0 = some r) : LJ.Spec Try.prog 22 [.d (.agg [.int .i64 a0.Op, .int .i64 a0.A, .int .i64 a0.B])] [] (.d (.int .i64 r)) [] := by
  refine LJ.Spec.code Try.func22 rfl 85 rfl rfl [] rfl fun w0 F0 S0 B0 => ?_
  unfold ref07_Check at H
  refine WC.seq ?_
  refine WC.region ?_
  refine WL.eff 101 tt_ok et_ok eg0 rfl rfl rfl trivial ?_
  refine WL.run 1 tt_ok sg0 rfl rfl trivial ?_
  refine WL.nil ?_
  refine QT.n ?_
  refine WC.seq ?_
  refine WC.seq ?_
  refine WC.region ?_
  refine WL.run 2 tt_ok sg0 rfl rfl trivial ?_
  obtain ⟨x1, hx1, H⟩ := of_bind H
  refine WL.call [] (ref06_Known_0 _ hx1) ref06_Known_f rfl rfl trivial rfl rfl rfl ?_
  refine WL.run 1 tt_ok sg0 rfl rfl trivial ?_
  refine WL.nil ?_
  refine QT.n ?_
  refine WC.cond rfl (fun h2 => ?_) (fun h2 => ?_)
  · replace H := of_t H h2
    refine WC.seq ?_
    refine WC.region ?_
    refine WL.run 1 tt_ok sg0 rfl rfl trivial ?_
    refine WL.nil ?_
    refine QT.n ?_
    refine WC.ret ?_
    refine QT.r ?_
    cases H
    exact Ends.auto rfl rfl rfl trivial
  replace H := of_f H h2
  refine WC.skip ?_
  refine QT.n ?_
  refine WC.seq ?_
  obtain ⟨x3_2_1, hx3_2_1, H⟩ := of_bind H
  refine WC.heldF [(1, .ptr 101 0), (3, .d (.str x3_2_1)), (4, .d (slT enc_i64 ([a0.A, a0.B] : List Int)))] [(101, .box 40 [.d (.int .i64 a0.Op), .d (.int .i64 a0.A), .d (.int .i64 a0.B)])] (.one 0 true (.one 1 true (.one 3 true (.one 4 true (.one 5 true (.one 6 true (.fork (.one 2 false (.one 8 true (.one 7 false (.one 9 true .done)))) (.one 7 false (.one 2 false (.one 8 true (.one 9 true .done))))))))))) [101] [101] rfl (by kernel_rfl) rfl (by kernel_rfl) rfl rfl (fun _ h => h) rfl rfl rfl (fun FK NK wK K => ?_) ?_
  · refine WH.run 6 tt_ok rfl rfl rfl rfl trivial ?_
    refine WH.fork ?_ ?_
    · refine WH.call [] rfl (ref06_Form_0 _ hx3_2_1) ref06_Form_f rfl rfl trivial rfl rfl rfl rfl rfl ?_
      refine WH.run 1 tt_ok rfl rfl rfl rfl trivial ?_
      refine WH.eff 118 tt_ok et_ok rfl rfl rfl rfl trivial rfl rfl ?_
      refine WH.freezeT 118 enc_i64 ([a0.A, a0.B] : List Int) rfl rfl rfl rfl ?_
      refine WH.mv rfl rfl rfl rfl rfl rfl rfl rfl rfl ?_
      exact WH.nilF rfl (LessW.mk' ⟨AVle.of rfl, AVle.of rfl, AVle.of rfl, trivial⟩ ⟨rfl, trivial⟩)
    · refine WH.eff 118 tt_ok et_ok rfl rfl rfl rfl trivial rfl rfl ?_
      refine WH.freezeT 118 enc_i64 ([a0.A, a0.B] : List Int) rfl rfl rfl rfl ?_
      refine WH.call [] rfl (ref06_Form_0 _ hx3_2_1) ref06_Form_f rfl rfl trivial rfl rfl rfl rfl rfl ?_
      refine WH.run 1 tt_ok rfl rfl rfl rfl trivial ?_
      refine WH.mv rfl rfl rfl rfl rfl rfl rfl rfl rfl ?_
      exact WH.nilF rfl (LessW.mk' ⟨AVle.of rfl, AVle.of rfl, AVle.of rfl, trivial⟩ ⟨rfl, trivial⟩)
  · refine QT.n ?_
    refine WC.seq ?_
    refine WC.seq ?_
    refine WC.region ?_
    refine WL.run 1 tt_ok sg0 rfl rfl trivial ?_
    refine WL.nil ?_
    refine QT.n ?_
    refine WC.block ?_
    refine WC.loop (ι := {x : Nat × Int // ref07_Check_l4 a0 x3_2_1 x.1 x.2 = some r}) (fun x => [(1, .ptr 101 0), (3, .d (.str x3_2_1)), (4, .d (slT enc_i64 ([a0.A, a0.B] : List Int))), (5, .d (.int .i64 x.1.2))]) (fun x => [(101, .box 40 [.d (.int .i64 a0.Op), .d (.int .i64 a0.A), .d (.int .i64 a0.B)])]) (fun x => x.1.1) ⟨(fuel, 0), H⟩ (Less.mk' ⟨rfl, rfl, rfl, rfl, trivial⟩ ⟨rfl, trivial⟩) fun x => ?_
    obtain ⟨⟨k4, s3⟩, H⟩ := x
    rcases k4 with _ | k4
    · exact of_none H
    rw [ref07_Check_l4] at H
    refine WC.seq ?_
    refine WC.seq ?_
    refine WC.region ?_
    refine WL.run 4 tt_ok sg0 rfl rfl trivial ?_
    refine WL.nil ?_
    refine QT.n ?_
    refine WC.cond rfl (fun h5 => ?_) (fun h5 => ?_)
    · replace H := of_t H h5
      refine WC.skip ?_
      refine QT.n ?_
      refine WC.seq ?_
      refine WC.block ?_
      refine WC.seq ?_
      refine WC.heldP (.one 0 true (.one 1 true (.one 2 true (.one 3 true (.one 4 true (.one 5 true (.one 6 true (.one 7 true (.one 8 true (.one 9 false (.one 10 true (.one 11 true (.one 12 true (.one 13 true (.one 14 true (.one 15 true (.one 16 true (.one 17 true (.one 18 true (.one 19 true (.one 20 true (.one 21 true (.one 22 true (.one 23 true (.one 24 true (.one 25 false (.one 26 true (.one 27 true (.one 28 true (.one 29 true (.one 30 true (.one 31 true (.one 32 true (.one 33 true (.one 34 true (.one 35 false (.one 36 true (.one 37 true (.one 38 true (.one 39 true .done)))))))))))))))))))))))))))))))))))))))) [101] [101] rfl (by kernel_rfl) rfl (by kernel_rfl) rfl rfl (fun _ h => h) rfl rfl rfl (fun _ _ _ h => h) fun FK NK wK K => ?_
      obtain ⟨g6, H⟩ := of_need H
      refine WH.run 5 tt_ok rfl rfl rfl rfl ⟨(nIn_ok g6), trivial⟩ ?_
      refine WH.split (g := 29) rfl (fun h7 => ?_) (fun h7 => ?_)
      · replace H := of_t H h7
        obtain ⟨g8, H⟩ := of_need H
        refine WH.grun 4 4 true 29 tt_ok rfl rfl rfl rfl rfl rfl ⟨⟨(nIn_ok g8).1, (nIn_ok g8).2, rfl⟩, trivial⟩ ?_
        obtain ⟨x9, hx9, H⟩ := of_bind H
        refine WH.gcall [] rfl (ref03_Fits_0 _ hx9) ref03_Fits_f rfl rfl trivial rfl rfl rfl rfl rfl rfl rfl rfl ?_
        refine WH.grun 1 4 true 29 tt_ok rfl rfl rfl rfl rfl rfl trivial ?_
        refine WH.pick1 rfl rfl rfl rfl rfl rfl rfl ?_
        refine WH.run 1 tt_ok rfl rfl rfl rfl trivial ?_
        refine WH.split (g := 37) rfl (fun h10 => ?_) (fun h10 => ?_)
        · replace H := of_t H h10
          refine WH.gskip rfl rfl rfl rfl rfl rfl rfl ?_
          refine WH.gskip rfl rfl rfl rfl rfl rfl rfl ?_
          refine WH.gskip rfl rfl rfl rfl rfl rfl rfl ?_
          refine WH.gskip rfl rfl rfl rfl rfl rfl rfl ?_
          refine WH.gskip rfl rfl rfl rfl rfl rfl rfl ?_
          refine WH.gskip rfl rfl rfl rfl rfl rfl rfl ?_
          refine WH.gskip rfl rfl rfl rfl rfl rfl rfl ?_
          refine WH.gskip rfl rfl rfl rfl rfl rfl rfl ?_
          refine WH.gskip rfl rfl rfl rfl rfl rfl rfl ?_
          refine WH.gskip rfl rfl rfl rfl rfl rfl rfl ?_
          refine WH.gskip rfl rfl rfl rfl rfl rfl rfl ?_
          refine WH.gskip rfl rfl rfl rfl rfl rfl rfl ?_
          refine WH.gskip rfl rfl rfl rfl rfl rfl rfl ?_
          refine WH.gskip rfl rfl rfl rfl rfl rfl rfl ?_
          refine WH.gskip rfl rfl rfl rfl rfl rfl rfl ?_
          refine WH.gskip rfl rfl rfl rfl rfl rfl rfl ?_
          refine WH.gskip rfl rfl rfl rfl rfl rfl rfl ?_
          refine WH.gskip rfl rfl rfl rfl rfl rfl rfl ?_
          refine WH.gskip rfl rfl rfl rfl rfl rfl rfl ?_
          refine WH.gskip rfl rfl rfl rfl rfl rfl rfl ?_
          refine WH.gskip rfl rfl rfl rfl rfl rfl rfl ?_
          refine WH.gskip rfl rfl rfl rfl rfl rfl rfl ?_
          refine WH.gskip rfl rfl rfl rfl rfl rfl rfl ?_
          refine WH.gskip rfl rfl rfl rfl rfl rfl rfl ?_
          refine WH.gskip rfl rfl rfl rfl rfl rfl rfl ?_
          refine WH.gskip rfl rfl rfl rfl rfl rfl rfl ?_
          refine WH.pick1 rfl rfl rfl rfl rfl rfl rfl ?_
          refine WH.nil rfl ?_
          refine QT.n ?_
          refine WC.cond rfl (fun h => ?_) (fun h => absurd h (by decide))
          refine WC.seq ?_
          refine WC.region ?_
          refine WL.run 1 tt_ok sg0 rfl rfl trivial ?_
          refine WL.nil ?_
          refine QT.n ?_
          refine WC.ret ?_
          refine QB.r (QT.r (QT.r (QB.r (QT.r ?_))))
          cases H
          exact Ends.auto rfl rfl rfl trivial
        · replace H := of_f H h10
          obtain ⟨g11, H⟩ := of_need H
          refine WH.grun 5 12 false 37 tt_ok rfl rfl rfl rfl rfl rfl ⟨(nIn_ok g11), trivial⟩ ?_
          refine WH.split (g := 42) rfl (fun h12 => ?_) (fun h12 => ?_)
          · replace H := of_t H h12
            obtain ⟨g13, H⟩ := of_need H
            obtain ⟨g14, H⟩ := of_need H
            refine WH.grun 7 17 true 42 tt_ok rfl rfl rfl rfl rfl rfl ⟨⟨(nIn_ok g13).1, (nIn_ok g13).2, rfl⟩, (nIn_ok g14), trivial⟩ ?_
            obtain ⟨x15, hx15, H⟩ := of_bind H
            refine WH.gcall [] rfl (ref07_least_0 _ hx15) ref07_least_f rfl rfl trivial rfl rfl rfl rfl rfl rfl rfl rfl ?_
            refine WH.grun 2 17 true 42 tt_ok rfl rfl rfl rfl rfl rfl trivial ?_
            refine WH.split (g := 52) rfl (fun h16 => ?_) (fun h16 => ?_)
            · replace H := of_t H h16
              refine WH.gskip rfl rfl rfl rfl rfl rfl rfl ?_
              refine WH.gskip rfl rfl rfl rfl rfl rfl rfl ?_
              refine WH.gskip rfl rfl rfl rfl rfl rfl rfl ?_
              refine WH.gskip rfl rfl rfl rfl rfl rfl rfl ?_
              refine WH.gskip rfl rfl rfl rfl rfl rfl rfl ?_
              refine WH.gskip rfl rfl rfl rfl rfl rfl rfl ?_
              refine WH.gskip rfl rfl rfl rfl rfl rfl rfl ?_
              refine WH.gskip rfl rfl rfl rfl rfl rfl rfl ?_
              refine WH.gskip rfl rfl rfl rfl rfl rfl rfl ?_
              refine WH.gpick1 rfl rfl rfl rfl rfl rfl rfl rfl rfl rfl ?_
              refine WH.gpick1 rfl rfl rfl rfl rfl rfl rfl rfl rfl rfl ?_
              refine WH.pick1 rfl rfl rfl rfl rfl rfl rfl ?_
              refine WH.nil rfl ?_
              refine QT.n ?_
              refine WC.cond rfl (fun h => ?_) (fun h => absurd h (by decide))
              refine WC.seq ?_
              refine WC.region ?_
              refine WL.run 1 tt_ok sg0 rfl rfl trivial ?_
              refine WL.nil ?_
              refine QT.n ?_
              refine WC.ret ?_
              refine QB.r (QT.r (QT.r (QB.r (QT.r ?_))))
              cases H
              exact Ends.auto rfl rfl rfl trivial
            · replace H := of_f H h16
              obtain ⟨g17, H⟩ := of_need H
              obtain ⟨g18, H⟩ := of_need H
              refine WH.grun 7 27 false 52 tt_ok rfl rfl rfl rfl rfl rfl ⟨⟨(nIn_ok g17).1, (nIn_ok g17).2, rfl⟩, (nIn_ok g18), trivial⟩ ?_
              obtain ⟨x19, hx19, H⟩ := of_bind H
              refine WH.gcall [] rfl (ref07_most_0 _ hx19) ref07_most_f rfl rfl trivial rfl rfl rfl rfl rfl rfl rfl rfl ?_
              refine WH.grun 1 27 false 52 tt_ok rfl rfl rfl rfl rfl rfl trivial ?_
              refine WH.gpick1 rfl rfl rfl rfl rfl rfl rfl rfl rfl rfl ?_
              refine WH.gpick1 rfl rfl rfl rfl rfl rfl rfl rfl rfl rfl ?_
              refine WH.pick1 rfl rfl rfl rfl rfl rfl rfl ?_
              refine WH.nil rfl ?_
              refine QT.n ?_
              refine WC.cond rfl (fun h20 => ?_) (fun h20 => ?_)
              · replace H := of_t H h20
                refine WC.seq ?_
                refine WC.region ?_
                refine WL.run 1 tt_ok sg0 rfl rfl trivial ?_
                refine WL.nil ?_
                refine QT.n ?_
                refine WC.ret ?_
                refine QB.r (QT.r (QT.r (QB.r (QT.r ?_))))
                cases H
                exact Ends.auto rfl rfl rfl trivial
              replace H := of_f H h20
              refine WC.skip ?_
              refine QB.n (QT.n ?_)
              refine WC.region ?_
              refine WL.run 3 tt_ok sg0 rfl rfl trivial ?_
              refine WL.nil ?_
              refine QT.n ?_
              exact ⟨⟨(k4, IntKind.i64.wrap (s3 + 1)), H⟩, Nat.lt_succ_self _, Less.mk' ⟨rfl, rfl, rfl, rfl, trivial⟩ ⟨rfl, trivial⟩⟩
          · replace H := of_f H h12
            refine WH.gskip rfl rfl rfl rfl rfl rfl rfl ?_
            refine WH.gskip rfl rfl rfl rfl rfl rfl rfl ?_
            refine WH.gskip rfl rfl rfl rfl rfl rfl rfl ?_
            refine WH.gskip rfl rfl rfl rfl rfl rfl rfl ?_
            refine WH.gskip rfl rfl rfl rfl rfl rfl rfl ?_
            refine WH.gskip rfl rfl rfl rfl rfl rfl rfl ?_
            refine WH.gskip rfl rfl rfl rfl rfl rfl rfl ?_
            refine WH.gskip rfl rfl rfl rfl rfl rfl rfl ?_
            refine WH.gskip rfl rfl rfl rfl rfl rfl rfl ?_
            refine WH.gskip rfl rfl rfl rfl rfl rfl rfl ?_
            refine WH.gskip rfl rfl rfl rfl rfl rfl rfl ?_
            refine WH.gskip rfl rfl rfl rfl rfl rfl rfl ?_
            refine WH.gskip rfl rfl rfl rfl rfl rfl rfl ?_
            refine WH.gskip rfl rfl rfl rfl rfl rfl rfl ?_
            refine WH.gskip rfl rfl rfl rfl rfl rfl rfl ?_
            refine WH.gskip rfl rfl rfl rfl rfl rfl rfl ?_
            refine WH.gskip rfl rfl rfl rfl rfl rfl rfl ?_
            refine WH.gskip rfl rfl rfl rfl rfl rfl rfl ?_
            refine WH.gskip rfl rfl rfl rfl rfl rfl rfl ?_
            refine WH.gskip rfl rfl rfl rfl rfl rfl rfl ?_
            refine WH.gpick1 rfl rfl rfl rfl rfl rfl rfl rfl rfl rfl ?_
            refine WH.pick1 rfl rfl rfl rfl rfl rfl rfl ?_
            refine WH.nil rfl ?_
            refine QT.n ?_
            refine WC.cond rfl (fun h => absurd h (by decide)) (fun h => ?_)
            refine WC.skip ?_
            refine QB.n (QT.n ?_)
            refine WC.region ?_
            refine WL.run 3 tt_ok sg0 rfl rfl trivial ?_
            refine WL.nil ?_
            refine QT.n ?_
            exact ⟨⟨(k4, IntKind.i64.wrap (s3 + 1)), H⟩, Nat.lt_succ_self _, Less.mk' ⟨rfl, rfl, rfl, rfl, trivial⟩ ⟨rfl, trivial⟩⟩
      · replace H := of_f H h7
        refine WH.gskip rfl rfl rfl rfl rfl rfl rfl ?_
        refine WH.gskip rfl rfl rfl rfl rfl rfl rfl ?_
        refine WH.gskip rfl rfl rfl rfl rfl rfl rfl ?_
        refine WH.gskip rfl rfl rfl rfl rfl rfl rfl ?_
        refine WH.gskip rfl rfl rfl rfl rfl rfl rfl ?_
        refine WH.gskip rfl rfl rfl rfl rfl rfl rfl ?_
        refine WH.pick1 rfl rfl rfl rfl rfl rfl rfl ?_
        refine WH.run 1 tt_ok rfl rfl rfl rfl trivial ?_
        obtain ⟨g21, H⟩ := of_need H
        refine WH.grun 5 12 false 37 tt_ok rfl rfl rfl rfl rfl rfl ⟨(nIn_ok g21), trivial⟩ ?_
        refine WH.split (g := 42) rfl (fun h22 => ?_) (fun h22 => ?_)
        · replace H := of_t H h22
          obtain ⟨g23, H⟩ := of_need H
          obtain ⟨g24, H⟩ := of_need H
          refine WH.grun 7 17 true 42 tt_ok rfl rfl rfl rfl rfl rfl ⟨⟨(nIn_ok g23).1, (nIn_ok g23).2, rfl⟩, (nIn_ok g24), trivial⟩ ?_
          obtain ⟨x25, hx25, H⟩ := of_bind H
          refine WH.gcall [] rfl (ref07_least_0 _ hx25) ref07_least_f rfl rfl trivial rfl rfl rfl rfl rfl rfl rfl rfl ?_
          refine WH.grun 2 17 true 42 tt_ok rfl rfl rfl rfl rfl rfl trivial ?_
          refine WH.split (g := 52) rfl (fun h26 => ?_) (fun h26 => ?_)
          · replace H := of_t H h26
            refine WH.gskip rfl rfl rfl rfl rfl rfl rfl ?_
            refine WH.gskip rfl rfl rfl rfl rfl rfl rfl ?_
            refine WH.gskip rfl rfl rfl rfl rfl rfl rfl ?_
            refine WH.gskip rfl rfl rfl rfl rfl rfl rfl ?_
            refine WH.gskip rfl rfl rfl rfl rfl rfl rfl ?_
            refine WH.gskip rfl rfl rfl rfl rfl rfl rfl ?_
            refine WH.gskip rfl rfl rfl rfl rfl rfl rfl ?_
            refine WH.gskip rfl rfl rfl rfl rfl rfl rfl ?_
            refine WH.gskip rfl rfl rfl rfl rfl rfl rfl ?_
            refine WH.gpick1 rfl rfl rfl rfl rfl rfl rfl rfl rfl rfl ?_
            refine WH.gpick1 rfl rfl rfl rfl rfl rfl rfl rfl rfl rfl ?_
            refine WH.pick1 rfl rfl rfl rfl rfl rfl rfl ?_
            refine WH.nil rfl ?_
            refine QT.n ?_
            refine WC.cond rfl (fun h => ?_) (fun h => absurd h (by decide))
            refine WC.seq ?_
            refine WC.region ?_
            refine WL.run 1 tt_ok sg0 rfl rfl trivial ?_
            refine WL.nil ?_
            refine QT.n ?_
            refine WC.ret ?_
            refine QB.r (QT.r (QT.r (QB.r (QT.r ?_))))
            cases H
            exact Ends.auto rfl rfl rfl trivial
          · replace H := of_f H h26
            obtain ⟨g27, H⟩ := of_need H
            obtain ⟨g28, H⟩ := of_need H
            refine WH.grun 7 27 false 52 tt_ok rfl rfl rfl rfl rfl rfl ⟨⟨(nIn_ok g27).1, (nIn_ok g27).2, rfl⟩, (nIn_ok g28), trivial⟩ ?_
            obtain ⟨x29, hx29, H⟩ := of_bind H
            refine WH.gcall [] rfl (ref07_most_0 _ hx29) ref07_most_f rfl rfl trivial rfl rfl rfl rfl rfl rfl rfl rfl ?_
            refine WH.grun 1 27 false 52 tt_ok rfl rfl rfl rfl rfl rfl trivial ?_
            refine WH.gpick1 rfl rfl rfl rfl rfl rfl rfl rfl rfl rfl ?_
            refine WH.gpick1 rfl rfl rfl rfl rfl rfl rfl rfl rfl rfl ?_
            refine WH.pick1 rfl rfl rfl rfl rfl rfl rfl ?_
            refine WH.nil rfl ?_
            refine QT.n ?_
            refine WC.cond rfl (fun h30 => ?_) (fun h30 => ?_)
            · replace H := of_t H h30
              refine WC.seq ?_
              refine WC.region ?_
              refine WL.run 1 tt_ok sg0 rfl rfl trivial ?_
              refine WL.nil ?_
              refine QT.n ?_
              refine WC.ret ?_
              refine QB.r (QT.r (QT.r (QB.r (QT.r ?_))))
              cases H
              exact Ends.auto rfl rfl rfl trivial
            replace H := of_f H h30
            refine WC.skip ?_
            refine QB.n (QT.n ?_)
            refine WC.region ?_
            refine WL.run 3 tt_ok sg0 rfl rfl trivial ?_
            refine WL.nil ?_
            refine QT.n ?_
            exact ⟨⟨(k4, IntKind.i64.wrap (s3 + 1)), H⟩, Nat.lt_succ_self _, Less.mk' ⟨rfl, rfl, rfl, rfl, trivial⟩ ⟨rfl, trivial⟩⟩
        · replace H := of_f H h22
          refine WH.gskip rfl rfl rfl rfl rfl rfl rfl ?_
          refine WH.gskip rfl rfl rfl rfl rfl rfl rfl ?_
          refine WH.gskip rfl rfl rfl rfl rfl rfl rfl ?_
          refine WH.gskip rfl rfl rfl rfl rfl rfl rfl ?_
          refine WH.gskip rfl rfl rfl rfl rfl rfl rfl ?_
          refine WH.gskip rfl rfl rfl rfl rfl rfl rfl ?_
          refine WH.gskip rfl rfl rfl rfl rfl rfl rfl ?_
          refine WH.gskip rfl rfl rfl rfl rfl rfl rfl ?_
          refine WH.gskip rfl rfl rfl rfl rfl rfl rfl ?_
          refine WH.gskip rfl rfl rfl rfl rfl rfl rfl ?_
          refine WH.gskip rfl rfl rfl rfl rfl rfl rfl ?_
          refine WH.gskip rfl rfl rfl rfl rfl rfl rfl ?_
          refine WH.gskip rfl rfl rfl rfl rfl rfl rfl ?_
          refine WH.gskip rfl rfl rfl rfl rfl rfl rfl ?_
          refine WH.gskip rfl rfl rfl rfl rfl rfl rfl ?_
          refine WH.gskip rfl rfl rfl rfl rfl rfl rfl ?_
          refine WH.gskip rfl rfl rfl rfl rfl rfl rfl ?_
          refine WH.gskip rfl rfl rfl rfl rfl rfl rfl ?_
          refine WH.gskip rfl rfl rfl rfl rfl rfl rfl ?_
          refine WH.gskip rfl rfl rfl rfl rfl rfl rfl ?_
          refine WH.gpick1 rfl rfl rfl rfl rfl rfl rfl rfl rfl rfl ?_
          refine WH.pick1 rfl rfl rfl rfl rfl rfl rfl ?_
          refine WH.nil rfl ?_
          refine QT.n ?_
          refine WC.cond rfl (fun h => absurd h (by decide)) (fun h => ?_)
          refine WC.skip ?_
          refine QB.n (QT.n ?_)
          refine WC.region ?_
          refine WL.run 3 tt_ok sg0 rfl rfl trivial ?_
          refine WL.nil ?_
          refine QT.n ?_
          exact ⟨⟨(k4, IntKind.i64.wrap (s3 + 1)), H⟩, Nat.lt_succ_self _, Less.mk' ⟨rfl, rfl, rfl, rfl, trivial⟩ ⟨rfl, trivial⟩⟩
    replace H := of_f H h5
    refine WC.exit ?_
    refine QT.x (QT.x (QB.hit (QT.n ?_)))
    refine WC.seq ?_
    refine WC.seq ?_
    refine WC.region ?_
    refine WL.run 3 tt_ok sg0 rfl rfl trivial ?_
    refine WL.sect 5 2 true tt_ok sg0 rfl rfl (fun _ => trivial) ?_
    refine WL.run 1 tt_ok sg0 rfl rfl ⟨by first | exact id | exact fun h => by rw [h]; rfl | simp_all, trivial⟩ ?_
    refine WL.nil ?_
    refine QT.n ?_
    refine WC.cond rfl (fun h31 => ?_) (fun h31 => ?_)
    · replace H := of_t H h31
      refine WC.seq ?_
      refine WC.region ?_
      refine WL.run 1 tt_ok sg0 rfl rfl trivial ?_
      refine WL.nil ?_
      refine QT.n ?_
      refine WC.ret ?_
      refine QT.r ?_
      cases H
      exact Ends.auto rfl rfl rfl trivial
    replace H := of_f H h31
    refine WC.skip ?_
    refine QT.n ?_
    refine WC.seq ?_
    refine WC.seq ?_
    refine WC.region ?_
    refine WL.run 3 tt_ok sg0 rfl rfl trivial ?_
    refine WL.nil ?_
    refine QT.n ?_
    refine WC.block ?_
    refine WC.loop (ι := {x : Nat × Int // ref07_Check_l33 a0 x.1 x.2 = some r}) (fun x => [(4, .d (slT enc_i64 ([a0.A, a0.B] : List Int))), (6, .d (.int .i64 x.1.2))]) (fun x => []) (fun x => x.1.1) ⟨(fuel, (x3_2_1.size : Int)), H⟩ (Less.mk' ⟨rfl, rfl, trivial⟩ trivial) fun x => ?_
    obtain ⟨⟨k33, s32⟩, H⟩ := x
    rcases k33 with _ | k33
    · exact of_none H
    rw [ref07_Check_l33] at H
    refine WC.seq ?_
    refine WC.seq ?_
    refine WC.region ?_
    refine WL.run 2 tt_ok sg0 rfl rfl trivial ?_
    refine WL.nil ?_
    refine QT.n ?_
    refine WC.cond rfl (fun h34 => ?_) (fun h34 => ?_)
    · replace H := of_t H h34
      refine WC.skip ?_
      refine QT.n ?_
      refine WC.seq ?_
      refine WC.block ?_
      refine WC.seq ?_
      refine WC.region ?_
      obtain ⟨g35, H⟩ := of_need H
      refine WL.run 5 tt_ok sg0 rfl rfl ⟨⟨(nIn_ok g35).1, (nIn_ok g35).2, rfl⟩, trivial⟩ ?_
      refine WL.nil ?_
      refine QT.n ?_
      refine WC.cond rfl (fun h36 => ?_) (fun h36 => ?_)
      · replace H := of_t H h36
        refine WC.seq ?_
        refine WC.region ?_
        refine WL.run 1 tt_ok sg0 rfl rfl trivial ?_
        refine WL.nil ?_
        refine QT.n ?_
        refine WC.ret ?_
        refine QB.r (QT.r (QT.r (QB.r (QT.r ?_))))
        cases H
        exact Ends.auto rfl rfl rfl trivial
      replace H := of_f H h36
      refine WC.skip ?_
      refine QB.n (QT.n ?_)
      refine WC.region ?_
      refine WL.run 3 tt_ok sg0 rfl rfl trivial ?_
      refine WL.nil ?_
      refine QT.n ?_
      exact ⟨⟨(k33, IntKind.i64.wrap (s32 + 1)), H⟩, Nat.lt_succ_self _, Less.mk' ⟨rfl, rfl, trivial⟩ trivial⟩
    replace H := of_f H h34
    refine WC.exit ?_
    refine QT.x (QT.x (QB.hit (QT.n ?_)))
    refine WC.seq ?_
    refine WC.region ?_
    refine WL.run 1 tt_ok sg0 rfl rfl trivial ?_
    refine WL.nil ?_
    refine QT.n ?_
    refine WC.ret ?_
    cases H
    exact Ends.auto rfl rfl rfl trivial
theorem ref07_Check_f : hasFunc Try.prog 22 Try.f22 := ⟨Try.func22, rfl, by kernel_rfl⟩

/-! ### logjam/logjamref10.function -/
theorem ref10_function_0 (a0 : T_api_Func) {r : Int} (H : ref10_function a0 = some r) : LJ.Spec Try.prog 13 [.d (.agg [.int .i64 a0.Args, .int .i64 a0.Locals, slT enc_api_Ins a0.Code])] [] (.d (.int .i64 r)) [] := by
  refine LJ.Spec.code Try.func13 rfl 44 rfl rfl [] rfl fun w0 F0 S0 B0 => ?_
  unfold ref10_function at H
  refine WC.seq ?_
  refine WC.region ?_
  refine WL.eff 101 tt_ok et_ok eg0 rfl rfl rfl trivial ?_
  refine WL.run 1 tt_ok sg0 rfl rfl trivial ?_
  refine WL.nil ?_
  refine QT.n ?_
  refine WC.seq ?_
  refine WC.seq ?_
  refine WC.region ?_
  refine WL.run 4 tt_ok sg0 rfl rfl trivial ?_
  refine WL.sect 5 3 false tt_ok sg0 rfl rfl (fun _ => trivial) ?_
  refine WL.run 2 tt_ok sg0 rfl rfl ⟨by first | exact id | exact fun h => by rw [h]; rfl | simp_all, trivial⟩ ?_
  refine WL.sect 3 10 false tt_ok sg0 rfl rfl (fun _ => trivial) ?_
  refine WL.run 1 tt_ok sg0 rfl rfl ⟨by first | exact id | exact fun h => by rw [h]; rfl | simp_all, trivial⟩ ?_
  refine WL.nil ?_
  refine QT.n ?_
  refine WC.cond rfl (fun h1 => ?_) (fun h1 => ?_)
  · replace H := of_t H h1
    refine WC.seq ?_
    refine WC.region ?_
    refine WL.run 1 tt_ok sg0 rfl rfl trivial ?_
    refine WL.nil ?_
    refine QT.n ?_
    refine WC.ret ?_
    refine QT.r ?_
    cases H
    exact Ends.auto rfl rfl rfl trivial
  replace H := of_f H h1
  refine WC.skip ?_
  refine QT.n ?_
  refine WC.seq ?_
  refine WC.seq ?_
  refine WC.region ?_
  refine WL.run 4 tt_ok sg0 rfl rfl trivial ?_
  refine WL.nil ?_
  refine QT.n ?_
  refine WC.cond rfl (fun h2 => ?_) (fun h2 => ?_)
  · replace H := of_t H h2
    refine WC.seq ?_
    refine WC.region ?_
    refine WL.run 1 tt_ok sg0 rfl rfl trivial ?_
    refine WL.nil ?_
    refine QT.n ?_
    refine WC.ret ?_
    refine QT.r ?_
    cases H
    exact Ends.auto rfl rfl rfl trivial
  replace H := of_f H h2
  refine WC.skip ?_
  refine QT.n ?_
  refine WC.seq ?_
  refine WC.seq ?_
  refine WC.region ?_
  refine WL.run 4 tt_ok sg0 rfl rfl trivial ?_
  refine WL.nil ?_
  refine QT.n ?_
  refine WC.cond rfl (fun h3 => ?_) (fun h3 => ?_)
  · replace H := of_t H h3
    refine WC.seq ?_
    refine WC.region ?_
    refine WL.run 1 tt_ok sg0 rfl rfl trivial ?_
    refine WL.nil ?_
    refine QT.n ?_
    refine WC.ret ?_
    refine QT.r ?_
    cases H
    exact Ends.auto rfl rfl rfl trivial
  replace H := of_f H h3
  refine WC.skip ?_
  refine QT.n ?_
  refine WC.seq ?_
  refine WC.seq ?_
  refine WC.region ?_
  refine WL.run 1 tt_ok sg0 rfl rfl trivial ?_
  refine WL.nil ?_
  refine QT.n ?_
  refine WC.block ?_
  refine WC.loop (ι := {x : Nat × Int // ref10_function_l5 a0 x.1 x.2 = some r}) (fun x => [(1, .ptr 101 0), (3, .d (.int .i64 x.1.2))]) (fun x => [(101, .box 37 [.d (.int .i64 a0.Args), .d (.int .i64 a0.Locals), .d (slT enc_api_Ins a0.Code)])]) (fun x => x.1.1) ⟨(fuel, 0), H⟩ (Less.mk' ⟨rfl, rfl, trivial⟩ ⟨rfl, trivial⟩) fun x => ?_
  obtain ⟨⟨k5, s4⟩, H⟩ := x
  rcases k5 with _ | k5
  · exact of_none H
  rw [ref10_function_l5] at H
  refine WC.seq ?_
  refine WC.seq ?_
  refine WC.region ?_
  refine WL.run 5 tt_ok sg0 rfl rfl trivial ?_
  refine WL.nil ?_
  refine QT.n ?_
  refine WC.cond rfl (fun h6 => ?_) (fun h6 => ?_)
  · replace H := of_t H h6
    refine WC.skip ?_
    refine QT.n ?_
    refine WC.seq ?_
    refine WC.block ?_
    refine WC.seq ?_
    refine WC.region ?_
    obtain ⟨g7, H⟩ := of_need H
    refine WL.run 5 tt_ok sg0 rfl rfl ⟨⟨(nIn_ok g7).1, (nIn_ok g7).2, rfl⟩, trivial⟩ ?_
    obtain ⟨x8, hx8, H⟩ := of_bind H
    refine WL.call [] (ref07_Check_0 _ hx8) ref07_Check_f rfl rfl trivial rfl rfl rfl ?_
    refine WL.run 1 tt_ok sg0 rfl rfl trivial ?_
    refine WL.nil ?_
    refine QT.n ?_
    refine WC.seq ?_
    refine WC.region ?_
    refine WL.run 2 tt_ok sg0 rfl rfl trivial ?_
    refine WL.nil ?_
    refine QT.n ?_
    refine WC.cond rfl (fun h9 => ?_) (fun h9 => ?_)
    · replace H := of_t H h9
      refine WC.seq ?_
      refine WC.region ?_
      refine WL.run 2 tt_ok sg0 rfl rfl trivial ?_
      refine WL.nil ?_
      refine QT.n ?_
      refine WC.ret ?_
      refine QB.r (QT.r (QT.r (QB.r (QT.r ?_))))
      cases H
      exact Ends.auto rfl rfl rfl trivial
    replace H := of_f H h9
    refine WC.skip ?_
    refine QB.n (QT.n ?_)
    refine WC.region ?_
    refine WL.run 3 tt_ok sg0 rfl rfl trivial ?_
    refine WL.nil ?_
    refine QT.n ?_
    exact ⟨⟨(k5, IntKind.i64.wrap (s4 + 1)), H⟩, Nat.lt_succ_self _, Less.mk' ⟨rfl, rfl, trivial⟩ ⟨rfl, trivial⟩⟩
  replace H := of_f H h6
  refine WC.exit ?_
  refine QT.x (QT.x (QB.hit (QT.n ?_)))
  refine WC.seq ?_
  refine WC.region ?_
  refine WL.run 1 tt_ok sg0 rfl rfl trivial ?_
  refine WL.nil ?_
  refine QT.n ?_
  refine WC.ret ?_
  cases H
  exact Ends.auto rfl rfl rfl trivial
theorem ref10_function_f : hasFunc Try.prog 13 Try.f13 := ⟨Try.func13, rfl, by kernel_rfl⟩

/-! ### logjam/logjamref10.Check -/
theorem ref10_Check_0 (a0 : T_api_Program) {r : Int} (H : ref10_Check a0 = some r) : LJ.Spec Try.prog 5 [.d (.agg [slT enc_api_Decl a0.Decls, slT enc_sl_sl_api_Need a0.Waits, slT enc_api_Func a0.Funcs])] [] (.d (.int .i64 r)) [] := by
  refine LJ.Spec.code Try.func5 rfl 64 rfl rfl [] rfl fun w0 F0 S0 B0 => ?_
  unfold ref10_Check at H
  refine WC.seq ?_
  refine WC.region ?_
  refine WL.eff 101 tt_ok et_ok eg0 rfl rfl rfl trivial ?_
  refine WL.run 1 tt_ok sg0 rfl rfl trivial ?_
  refine WL.nil ?_
  refine QT.n ?_
  refine WC.seq ?_
  refine WC.seq ?_
  refine WC.region ?_
  refine WL.run 2 tt_ok sg0 rfl rfl trivial ?_
  obtain ⟨x1, hx1, H⟩ := of_bind H
  refine WL.call [] (ref08_Check_0 _ hx1) ref08_Check_f rfl rfl trivial rfl rfl rfl ?_
  refine WL.run 5 tt_ok sg0 rfl rfl trivial ?_
  refine WL.nil ?_
  refine QT.n ?_
  refine WC.seq ?_
  refine WC.region ?_
  refine WL.run 2 tt_ok sg0 rfl rfl trivial ?_
  refine WL.nil ?_
  refine QT.n ?_
  refine WC.cond rfl (fun h2 => ?_) (fun h2 => ?_)
  · replace H := of_t H h2
    refine WC.seq ?_
    refine WC.region ?_
    refine WL.run 2 tt_ok sg0 rfl rfl trivial ?_
    refine WL.nil ?_
    refine QT.n ?_
    refine WC.ret ?_
    refine QT.r ?_
    cases H
    exact Ends.auto rfl rfl rfl trivial
  replace H := of_f H h2
  refine WC.skip ?_
  refine QT.n ?_
  refine WC.seq ?_
  refine WC.seq ?_
  refine WC.region ?_
  refine WL.run 4 tt_ok sg0 rfl rfl trivial ?_
  refine WL.nil ?_
  refine QT.n ?_
  refine WC.cond rfl (fun h3 => ?_) (fun h3 => ?_)
  · replace H := of_t H h3
    refine WC.seq ?_
    refine WC.region ?_
    refine WL.run 1 tt_ok sg0 rfl rfl trivial ?_
    refine WL.nil ?_
    refine QT.n ?_
    refine WC.ret ?_
    refine QT.r ?_
    cases H
    exact Ends.auto rfl rfl rfl trivial
  replace H := of_f H h3
  refine WC.skip ?_
  refine QT.n ?_
  refine WC.seq ?_
  refine WC.seq ?_
  refine WC.region ?_
  refine WL.run 1 tt_ok sg0 rfl rfl trivial ?_
  refine WL.nil ?_
  refine QT.n ?_
  refine WC.block ?_
  refine WC.loop (ι := {x : Nat × Int // ref10_Check_l5 a0 x.1 x.2 = some r}) (fun x => [(1, .ptr 101 0), (5, .d (.int .i64 x.1.2))]) (fun x => [(101, .box 26 [.d (slT enc_api_Decl a0.Decls), .d (slT enc_sl_sl_api_Need a0.Waits), .d (slT enc_api_Func a0.Funcs)])]) (fun x => x.1.1) ⟨(fuel, 0), H⟩ (Less.mk' ⟨rfl, rfl, trivial⟩ ⟨rfl, trivial⟩) fun x => ?_
  obtain ⟨⟨k5, s4⟩, H⟩ := x
  rcases k5 with _ | k5
  · exact of_none H
  rw [ref10_Check_l5] at H
  refine WC.seq ?_
  refine WC.seq ?_
  refine WC.region ?_
  refine WL.run 5 tt_ok sg0 rfl rfl trivial ?_
  refine WL.nil ?_
  refine QT.n ?_
  refine WC.cond rfl (fun h6 => ?_) (fun h6 => ?_)
  · replace H := of_t H h6
    refine WC.skip ?_
    refine QT.n ?_
    refine WC.seq ?_
    refine WC.block ?_
    refine WC.seq ?_
    refine WC.heldP (.one 0 true (.one 1 true (.one 2 true (.one 3 true (.one 4 true (.one 5 true (.one 6 true (.one 7 false (.one 8 true .done))))))))) [101] [101] rfl (by kernel_rfl) rfl (by kernel_rfl) rfl rfl (fun _ h => h) rfl rfl rfl (fun _ _ _ h => h) fun FK NK wK K => ?_
    obtain ⟨g7, H⟩ := of_need H
    refine WH.run 7 tt_ok rfl rfl rfl rfl ⟨⟨(nIn_ok g7).1, (nIn_ok g7).2, rfl⟩, trivial⟩ ?_
    obtain ⟨x8, hx8, H⟩ := of_bind H
    refine WH.call [] rfl (ref09_Check_0 _ _ hx8) ref09_Check_f rfl rfl trivial rfl rfl rfl rfl rfl ?_
    refine WH.run 1 tt_ok rfl rfl rfl rfl trivial ?_
    refine WH.nil rfl ?_
    refine QT.n ?_
    refine WC.seq ?_
    refine WC.region ?_
    refine WL.run 2 tt_ok sg0 rfl rfl trivial ?_
    refine WL.nil ?_
    refine QT.n ?_
    refine WC.cond rfl (fun h9 => ?_) (fun h9 => ?_)
    · replace H := of_t H h9
      refine WC.seq ?_
      refine WC.region ?_
      refine WL.run 2 tt_ok sg0 rfl rfl trivial ?_
      refine WL.nil ?_
      refine QT.n ?_
      refine WC.ret ?_
      refine QB.r (QT.r (QT.r (QB.r (QT.r ?_))))
      cases H
      exact Ends.auto rfl rfl rfl trivial
    replace H := of_f H h9
    refine WC.skip ?_
    refine QB.n (QT.n ?_)
    refine WC.region ?_
    refine WL.run 3 tt_ok sg0 rfl rfl trivial ?_
    refine WL.nil ?_
    refine QT.n ?_
    exact ⟨⟨(k5, IntKind.i64.wrap (s4 + 1)), H⟩, Nat.lt_succ_self _, Less.mk' ⟨rfl, rfl, trivial⟩ ⟨rfl, trivial⟩⟩
  replace H := of_f H h6
  refine WC.exit ?_
  refine QT.x (QT.x (QB.hit (QT.n ?_)))
  refine WC.seq ?_
  refine WC.seq ?_
  refine WC.region ?_
  refine WL.run 4 tt_ok sg0 rfl rfl trivial ?_
  refine WL.nil ?_
  refine QT.n ?_
  refine WC.cond rfl (fun h10 => ?_) (fun h10 => ?_)
  · replace H := of_t H h10
    refine WC.seq ?_
    refine WC.region ?_
    refine WL.run 1 tt_ok sg0 rfl rfl trivial ?_
    refine WL.nil ?_
    refine QT.n ?_
    refine WC.ret ?_
    refine QT.r ?_
    cases H
    exact Ends.auto rfl rfl rfl trivial
  replace H := of_f H h10
  refine WC.skip ?_
  refine QT.n ?_
  refine WC.seq ?_
  refine WC.seq ?_
  refine WC.region ?_
  refine WL.run 4 tt_ok sg0 rfl rfl trivial ?_
  refine WL.nil ?_
  refine QT.n ?_
  refine WC.cond rfl (fun h11 => ?_) (fun h11 => ?_)
  · replace H := of_t H h11
    refine WC.seq ?_
    refine WC.region ?_
    refine WL.run 1 tt_ok sg0 rfl rfl trivial ?_
    refine WL.nil ?_
    refine QT.n ?_
    refine WC.ret ?_
    refine QT.r ?_
    cases H
    exact Ends.auto rfl rfl rfl trivial
  replace H := of_f H h11
  refine WC.skip ?_
  refine QT.n ?_
  refine WC.seq ?_
  refine WC.seq ?_
  refine WC.region ?_
  refine WL.run 1 tt_ok sg0 rfl rfl trivial ?_
  refine WL.nil ?_
  refine QT.n ?_
  refine WC.block ?_
  refine WC.loop (ι := {x : Nat × Int // ref10_Check_l13 a0 x.1 x.2 = some r}) (fun x => [(1, .ptr 101 0), (7, .d (.int .i64 x.1.2))]) (fun x => [(101, .box 26 [.d (slT enc_api_Decl a0.Decls), .d (slT enc_sl_sl_api_Need a0.Waits), .d (slT enc_api_Func a0.Funcs)])]) (fun x => x.1.1) ⟨(fuel, 0), H⟩ (Less.mk' ⟨rfl, rfl, trivial⟩ ⟨rfl, trivial⟩) fun x => ?_
  obtain ⟨⟨k13, s12⟩, H⟩ := x
  rcases k13 with _ | k13
  · exact of_none H
  rw [ref10_Check_l13] at H
  refine WC.seq ?_
  refine WC.seq ?_
  refine WC.region ?_
  refine WL.run 5 tt_ok sg0 rfl rfl trivial ?_
  refine WL.nil ?_
  refine QT.n ?_
  refine WC.cond rfl (fun h14 => ?_) (fun h14 => ?_)
  · replace H := of_t H h14
    refine WC.skip ?_
    refine QT.n ?_
    refine WC.seq ?_
    refine WC.block ?_
    refine WC.seq ?_
    refine WC.region ?_
    obtain ⟨g15, H⟩ := of_need H
    refine WL.run 5 tt_ok sg0 rfl rfl ⟨⟨(nIn_ok g15).1, (nIn_ok g15).2, rfl⟩, trivial⟩ ?_
    obtain ⟨x16, hx16, H⟩ := of_bind H
    refine WL.call [] (ref10_function_0 _ hx16) ref10_function_f rfl rfl trivial rfl rfl rfl ?_
    refine WL.run 1 tt_ok sg0 rfl rfl trivial ?_
    refine WL.nil ?_
    refine QT.n ?_
    refine WC.seq ?_
    refine WC.region ?_
    refine WL.run 2 tt_ok sg0 rfl rfl trivial ?_
    refine WL.nil ?_
    refine QT.n ?_
    refine WC.cond rfl (fun h17 => ?_) (fun h17 => ?_)
    · replace H := of_t H h17
      refine WC.seq ?_
      refine WC.region ?_
      refine WL.run 2 tt_ok sg0 rfl rfl trivial ?_
      refine WL.nil ?_
      refine QT.n ?_
      refine WC.ret ?_
      refine QB.r (QT.r (QT.r (QB.r (QT.r ?_))))
      cases H
      exact Ends.auto rfl rfl rfl trivial
    replace H := of_f H h17
    refine WC.skip ?_
    refine QB.n (QT.n ?_)
    refine WC.region ?_
    refine WL.run 3 tt_ok sg0 rfl rfl trivial ?_
    refine WL.nil ?_
    refine QT.n ?_
    exact ⟨⟨(k13, IntKind.i64.wrap (s12 + 1)), H⟩, Nat.lt_succ_self _, Less.mk' ⟨rfl, rfl, trivial⟩ ⟨rfl, trivial⟩⟩
  replace H := of_f H h14
  refine WC.exit ?_
  refine QT.x (QT.x (QB.hit (QT.n ?_)))
  refine WC.seq ?_
  refine WC.region ?_
  refine WL.run 1 tt_ok sg0 rfl rfl trivial ?_
  refine WL.nil ?_
  refine QT.n ?_
  refine WC.ret ?_
  cases H
  exact Ends.auto rfl rfl rfl trivial
theorem ref10_Check_f : hasFunc Try.prog 5 Try.f5 := ⟨Try.func5, rfl, by kernel_rfl⟩

/-! ### (*logjam/depth.walk).wrong -/
theorem depth_walk_wrong_0 (a0 : T_depth_walk) (a1 : Int) (a2 : Int) {r : T_depth_walk} (H : depth_walk_wrong a0 a1 a2 = some r) : LJ.Spec Try.prog 23 [.ptr 0 0, .d (.int .i64 a1), .d (.int .i64 a2)] [(0, .box 51 [.d (slT enc_api_Decl a0.p.Decls), .d (slT enc_sl_sl_api_Need a0.p.Waits), .d (slT enc_api_Func a0.p.Funcs), .d (slT enc_api_Ins a0.code), .own 1, .own 2, .d (.int .i64 a0.at_), .d (.int .i64 a0.err)]), (1, .row 3 1 (a0.depth.map enc_i64)), (2, .row 4 1 (a0.next.map enc_bool))] (.tup []) [(1, .row 3 1 (r.depth.map enc_i64)), (2, .row 4 1 (r.next.map enc_bool)), (0, .box 51 [.d (slT enc_api_Decl r.p.Decls), .d (slT enc_sl_sl_api_Need r.p.Waits), .d (slT enc_api_Func r.p.Funcs), .d (slT enc_api_Ins r.code), .own 1, .own 2, .d (.int .i64 r.at_), .d (.int .i64 r.err)])] := by
  refine LJ.Spec.code Try.func23 rfl 27 rfl rfl [0] rfl fun w0 F0 S0 B0 => ?_
  unfold depth_walk_wrong at H
  refine WC.seq ?_
  refine WC.region ?_
  refine WL.run 6 tt_ok sg0 rfl rfl trivial ?_
  refine WL.sect 6 5 false tt_ok sg0 rfl rfl (fun _ => trivial) ?_
  refine WL.run 1 tt_ok sg0 rfl rfl ⟨by first | exact id | exact fun h => by rw [h]; rfl | simp_all, trivial⟩ ?_
  refine WL.nil ?_
  refine QT.n ?_
  refine WC.cond rfl (fun h1 => ?_) (fun h1 => ?_)
  · replace H := of_t H h1
    refine WC.region ?_
    refine WL.run 6 tt_ok sg0 rfl rfl trivial ?_
    refine WL.eff 0 tt_ok et_ok eg0 rfl rfl rfl trivial ?_
    refine WL.run 2 tt_ok sg0 rfl rfl trivial ?_
    refine WL.eff 0 tt_ok et_ok eg0 rfl rfl rfl trivial ?_
    refine WL.nil ?_
    cases H
    exact Ends.auton rfl rfl rfl ⟨rfl, rfl, rfl, trivial⟩
  replace H := of_f H h1
  refine WC.skip ?_
  cases H
  exact Ends.auton rfl rfl rfl ⟨rfl, rfl, rfl, trivial⟩
theorem depth_walk_wrong_s (n0 n1 n2 : Nat) (hn : nodupB [n0, n1, n2] = true) (a0 : T_depth_walk) (a1 : Int) (a2 : Int) {r : T_depth_walk} (H : depth_walk_wrong a0 a1 a2 = some r) : LJ.Spec Try.prog 23 [.ptr n0 0, .d (.int .i64 a1), .d (.int .i64 a2)] [(n0, .box 51 [.d (slT enc_api_Decl a0.p.Decls), .d (slT enc_sl_sl_api_Need a0.p.Waits), .d (slT enc_api_Func a0.p.Funcs), .d (slT enc_api_Ins a0.code), .own n1, .own n2, .d (.int .i64 a0.at_), .d (.int .i64 a0.err)]), (n1, .row 3 1 (a0.depth.map enc_i64)), (n2, .row 4 1 (a0.next.map enc_bool))] (.tup []) [(n1, .row 3 1 (r.depth.map enc_i64)), (n2, .row 4 1 (r.next.map enc_bool)), (n0, .box 51 [.d (slT enc_api_Decl r.p.Decls), .d (slT enc_sl_sl_api_Need r.p.Waits), .d (slT enc_api_Func r.p.Funcs), .d (slT enc_api_Ins r.code), .own n1, .own n2, .d (.int .i64 r.at_), .d (.int .i64 r.err)])] :=
  Spec.names [n0, n1, n2] hn rfl rfl (depth_walk_wrong_0 a0 a1 a2 H)
theorem depth_walk_wrong_f : hasFunc Try.prog 23 Try.f23 := ⟨Try.func23, rfl, by kernel_rfl⟩

/-! ### (*logjam/depth.walk).leads -/
theorem depth_walk_leads_0 (a0 : T_depth_walk) (a1 : Int) (a2 : Int) (a3 : Int) {r : Bool × T_depth_walk} (H : depth_walk_leads a0 a1 a2 a3 = some r) : LJ.Spec Try.prog 14 [.ptr 0 0, .d (.int .i64 a1), .d (.int .i64 a2), .d (.int .i64 a3)] [(0, .box 51 [.d (slT enc_api_Decl a0.p.Decls), .d (slT enc_sl_sl_api_Need a0.p.Waits), .d (slT enc_api_Func a0.p.Funcs), .d (slT enc_api_Ins a0.code), .own 1, .own 2, .d (.int .i64 a0.at_), .d (.int .i64 a0.err)]), (1, .row 3 1 (a0.depth.map enc_i64)), (2, .row 4 1 (a0.next.map enc_bool))] (.d (.bool r.1)) [(1, .row 3 1 (r.2.depth.map enc_i64)), (2, .row 4 1 (r.2.next.map enc_bool)), (0, .box 51 [.d (slT enc_api_Decl r.2.p.Decls), .d (slT enc_sl_sl_api_Need r.2.p.Waits), .d (slT enc_api_Func r.2.p.Funcs), .d (slT enc_api_Ins r.2.code), .own 1, .own 2, .d (.int .i64 r.2.at_), .d (.int .i64 r.2.err)])] := by
  refine LJ.Spec.code Try.func14 rfl 55 rfl rfl [0] rfl fun w0 F0 S0 B0 => ?_
  unfold depth_walk_leads at H
  refine WC.seq ?_
  refine WC.region ?_
  refine WL.run 1 tt_ok sg0 rfl rfl trivial ?_
  refine WL.nil ?_
  refine QT.n ?_
  refine WC.seq ?_
  refine WC.block ?_
  refine WC.seq ?_
  refine WC.region ?_
  refine WL.run 8 tt_ok sg0 rfl rfl trivial ?_
  refine WL.nil ?_
  refine QT.n ?_
  refine WC.cond rfl (fun h1 => ?_) (fun h1 => ?_)
  · replace H := of_t H h1
    refine WC.seq ?_
    refine WC.region ?_
    refine WL.run 2 tt_ok sg0 rfl rfl trivial ?_
    obtain ⟨x2, hx2, H⟩ := of_bind H
    refine WL.call [1, 2] (depth_walk_wrong_s 0 1 2 rfl _ _ _ hx2) depth_walk_wrong_f rfl rfl ⟨rfl, rfl, rfl, trivial⟩ rfl rfl rfl ?_
    refine WL.nil ?_
    refine QT.n ?_
    refine WC.seq ?_
    refine WC.region ?_
    refine WL.run 1 tt_ok sg0 rfl rfl trivial ?_
    refine WL.nil ?_
    refine QT.n ?_
    refine WC.ret ?_
    refine QB.r (QT.r ?_)
    cases H
    exact Ends.auto rfl rfl rfl ⟨rfl, rfl, rfl, trivial⟩
  replace H := of_f H h1
  refine WC.seq ?_
  refine WC.region ?_
  refine WL.run 5 tt_ok sg0 rfl rfl trivial ?_
  obtain ⟨g3, H⟩ := of_need H
  refine WL.yv (LJ.Y.idxRel enc_i64 a0.depth a2 tt_ok rfl rfl rfl rfl rfl (nIn_ok g3)) rfl rfl rfl ?_
  refine WL.yv (LJ.Y.loadRel enc_i64 a0.depth a2 0 rfl rfl (fun _ => rfl) rfl (by kernel_rfl) rfl (by first | exact nIn_ok g3 | (have := nIn_ok g3; simpa only [List.length_set, List.length_map] using this))) rfl rfl rfl ?_
  refine WL.run 2 tt_ok sg0 rfl rfl trivial ?_
  refine WL.nil ?_
  refine QT.n ?_
  refine WC.cond rfl (fun h4 => ?_) (fun h4 => ?_)
  · replace H := of_t H h4
    refine WC.seq ?_
    refine WC.region ?_
    refine WL.run 6 tt_ok sg0 rfl rfl trivial ?_
    obtain ⟨g5, H⟩ := of_need H
    refine WL.yv (LJ.Y.idxRel enc_i64 a0.depth a2 tt_ok rfl rfl rfl rfl rfl (nIn_ok g5)) rfl rfl rfl ?_
    refine WL.storeRel enc_i64 a0.depth a2 0 a3 (.int .i64 a3) rfl rfl rfl rfl (fun _ => rfl) rfl (by kernel_rfl) rfl rfl (by first | exact nIn_ok g5 | (have := nIn_ok g5; simpa only [List.length_set, List.length_map] using this)) rfl rfl rfl rfl ?_
    refine WL.nil ?_
    refine QT.n ?_
    refine WC.region ?_
    refine WL.run 5 tt_ok sg0 rfl rfl trivial ?_
    obtain ⟨g6, H⟩ := of_need H
    refine WL.yv (LJ.Y.idxRel enc_bool a0.next a2 tt_ok rfl rfl rfl rfl rfl (nIn_ok g6)) rfl rfl rfl ?_
    refine WL.storeRel enc_bool a0.next a2 0 true (.bool true) rfl rfl rfl rfl (fun _ => rfl) rfl (by kernel_rfl) rfl rfl (by first | exact nIn_ok g6 | (have := nIn_ok g6; simpa only [List.length_set, List.length_map] using this)) rfl rfl rfl rfl ?_
    refine WL.nil ?_
    refine QB.n (QT.n ?_)
    refine WC.seq ?_
    refine WC.region ?_
    refine WL.run 1 tt_ok sg0 rfl rfl trivial ?_
    refine WL.nil ?_
    refine QT.n ?_
    refine WC.ret ?_
    cases H
    exact Ends.auto rfl rfl rfl ⟨rfl, rfl, rfl, trivial⟩
  replace H := of_f H h4
  refine WC.seq ?_
  refine WC.region ?_
  refine WL.run 5 tt_ok sg0 rfl rfl trivial ?_
  obtain ⟨g7, H⟩ := of_need H
  refine WL.yv (LJ.Y.idxRel enc_i64 a0.depth a2 tt_ok rfl rfl rfl rfl rfl (nIn_ok g7)) rfl rfl rfl ?_
  refine WL.yv (LJ.Y.loadRel enc_i64 a0.depth a2 0 rfl rfl (fun _ => rfl) rfl (by kernel_rfl) rfl (by first | exact nIn_ok g7 | (have := nIn_ok g7; simpa only [List.length_set, List.length_map] using this))) rfl rfl rfl ?_
  refine WL.run 3 tt_ok sg0 rfl rfl trivial ?_
  refine WL.nil ?_
  refine QT.n ?_
  refine WC.cond rfl (fun h8 => ?_) (fun h8 => ?_)
  · replace H := of_t H h8
    refine WC.seq ?_
    refine WC.region ?_
    refine WL.run 2 tt_ok sg0 rfl rfl trivial ?_
    obtain ⟨x9, hx9, H⟩ := of_bind H
    refine WL.call [1, 2] (depth_walk_wrong_s 0 1 2 rfl _ _ _ hx9) depth_walk_wrong_f rfl rfl ⟨rfl, rfl, rfl, trivial⟩ rfl rfl rfl ?_
    refine WL.nil ?_
    refine QT.n ?_
    refine WC.seq ?_
    refine WC.region ?_
    refine WL.run 1 tt_ok sg0 rfl rfl trivial ?_
    refine WL.nil ?_
    refine QT.n ?_
    refine WC.ret ?_
    refine QB.r (QT.r ?_)
    cases H
    exact Ends.auto rfl rfl rfl ⟨rfl, rfl, rfl, trivial⟩
  replace H := of_f H h8
  refine WC.skip ?_
  refine QB.n (QT.n ?_)
  refine WC.seq ?_
  refine WC.region ?_
  refine WL.run 1 tt_ok sg0 rfl rfl trivial ?_
  refine WL.nil ?_
  refine QT.n ?_
  refine WC.ret ?_
  cases H
  exact Ends.auto rfl rfl rfl ⟨rfl, rfl, rfl, trivial⟩
theorem depth_walk_leads_s (n0 n1 n2 : Nat) (hn : nodupB [n0, n1, n2] = true) (a0 : T_depth_walk) (a1 : Int) (a2 : Int) (a3 : Int) {r : Bool × T_depth_walk} (H : depth_walk_leads a0 a1 a2 a3 = some r) : LJ.Spec Try.prog 14 [.ptr n0 0, .d (.int .i64 a1), .d (.int .i64 a2), .d (.int .i64 a3)] [(n0, .box 51 [.d (slT enc_api_Decl a0.p.Decls), .d (slT enc_sl_sl_api_Need a0.p.Waits), .d (slT enc_api_Func a0.p.Funcs), .d (slT enc_api_Ins a0.code), .own n1, .own n2, .d (.int .i64 a0.at_), .d (.int .i64 a0.err)]), (n1, .row 3 1 (a0.depth.map enc_i64)), (n2, .row 4 1 (a0.next.map enc_bool))] (.d (.bool r.1)) [(n1, .row 3 1 (r.2.depth.map enc_i64)), (n2, .row 4 1 (r.2.next.map enc_bool)), (n0, .box 51 [.d (slT enc_api_Decl r.2.p.Decls), .d (slT enc_sl_sl_api_Need r.2.p.Waits), .d (slT enc_api_Func r.2.p.Funcs), .d (slT enc_api_Ins r.2.code), .own n1, .own n2, .d (.int .i64 r.2.at_), .d (.int .i64 r.2.err)])] :=
  Spec.names [n0, n1, n2] hn rfl rfl (depth_walk_leads_0 a0 a1 a2 a3 H)
theorem depth_walk_leads_f : hasFunc Try.prog 14 Try.f14 := ⟨Try.func14, rfl, by kernel_rfl⟩

/-! ### slices.Index[[]bool,bool] -/
theorem slices_Index___bool_bool__0 (a0 : List Bool) (a1 : Bool) {r : Int} (H : slices_Index___bool_bool_ a0 a1 = some r) : LJ.Spec Try.prog 24 [.d (slT enc_bool a0), .d (.bool a1)] [] (.d (.int .i64 r)) [] := by
  refine LJ.Spec.code Try.func24 rfl 19 rfl rfl [] rfl fun w0 F0 S0 B0 => ?_
  unfold slices_Index___bool_bool_ at H
  refine WC.seq ?_
  refine WC.region ?_
  refine WL.run 1 tt_ok sg0 rfl rfl trivial ?_
  refine WL.nil ?_
  refine QT.n ?_
  refine WC.seq ?_
  refine WC.seq ?_
  refine WC.region ?_
  refine WL.run 3 tt_ok sg0 rfl rfl trivial ?_
  refine WL.nil ?_
  refine QT.n ?_
  refine WC.block ?_
  refine WC.loop (ι := {x : Nat × Int // slices_Index___bool_bool__l2 a0 a1 x.1 x.2 = some r}) (fun x => [(0, .d (slT enc_bool a0)), (1, .d (.bool a1)), (7, .d (.int .i64 (a0.length : Int))), (8, .d (.int .i64 x.1.2))]) (fun x => []) (fun x => x.1.1) ⟨(fuel, 0), H⟩ (Less.mk' ⟨rfl, rfl, rfl, rfl, trivial⟩ trivial) fun x => ?_
  obtain ⟨⟨k2, s1⟩, H⟩ := x
  rcases k2 with _ | k2
  · exact of_none H
  rw [slices_Index___bool_bool__l2] at H
  refine WC.seq ?_
  refine WC.region ?_
  refine WL.run 1 tt_ok sg0 rfl rfl trivial ?_
  refine WL.nil ?_
  refine QT.n ?_
  refine WC.seq ?_
  refine WC.cond rfl (fun h3 => ?_) (fun h3 => ?_)
  · replace H := of_t H h3
    refine WC.skip ?_
    refine QT.n ?_
    refine WC.seq ?_
    refine WC.block ?_
    refine WC.seq ?_
    refine WC.region ?_
    refine WL.run 2 tt_ok sg0 rfl rfl trivial ?_
    refine WL.nil ?_
    refine QT.n ?_
    refine WC.seq ?_
    refine WC.region ?_
    obtain ⟨g4, H⟩ := of_need H
    refine WL.run 6 tt_ok sg0 rfl rfl ⟨⟨(nIn_ok g4).1, (nIn_ok g4).2, rfl⟩, trivial⟩ ?_
    refine WL.nil ?_
    refine QT.n ?_
    refine WC.cond rfl (fun h5 => ?_) (fun h5 => ?_)
    · replace H := of_t H h5
      refine WC.seq ?_
      refine WC.region ?_
      refine WL.run 2 tt_ok sg0 rfl rfl trivial ?_
      refine WL.nil ?_
      refine QT.n ?_
      refine WC.ret ?_
      refine QB.r (QT.r (QT.r (QB.r (QT.r ?_))))
      cases H
      exact Ends.auto rfl rfl rfl trivial
    replace H := of_f H h5
    refine WC.skip ?_
    refine QB.n (QT.n ?_)
    refine WC.region ?_
    refine WL.run 2 tt_ok sg0 rfl rfl trivial ?_
    refine WL.nil ?_
    refine QT.n ?_
    exact ⟨⟨(k2, IntKind.i64.wrap (s1 + 1)), H⟩, Nat.lt_succ_self _, Less.mk' ⟨rfl, rfl, rfl, rfl, trivial⟩ trivial⟩
  replace H := of_f H h3
  refine WC.exit ?_
  refine QT.x (QT.x (QB.hit (QT.n ?_)))
  refine WC.seq ?_
  refine WC.region ?_
  refine WL.run 1 tt_ok sg0 rfl rfl trivial ?_
  refine WL.nil ?_
  refine QT.n ?_
  refine WC.ret ?_
  cases H
  exact Ends.auto rfl rfl rfl trivial
theorem slices_Index___bool_bool__f : hasFunc Try.prog 24 Try.f24 := ⟨Try.func24, rfl, by kernel_rfl⟩

/-! ### (*logjam/depth.walk).least -/
theorem depth_walk_least_0 (a0 : T_depth_walk) {r : Int} (H : depth_walk_least a0 = some r) : LJ.Spec Try.prog 15 [.ptr 0 0] [(0, .box 51 [.d (slT enc_api_Decl a0.p.Decls), .d (slT enc_sl_sl_api_Need a0.p.Waits), .d (slT enc_api_Func a0.p.Funcs), .d (slT enc_api_Ins a0.code), .own 1, .own 2, .d (.int .i64 a0.at_), .d (.int .i64 a0.err)]), (1, .row 3 1 (a0.depth.map enc_i64)), (2, .row 4 1 (a0.next.map enc_bool))] (.d (.int .i64 r)) [(1, .row 3 1 (a0.depth.map enc_i64)), (2, .row 4 1 (a0.next.map enc_bool)), (0, .box 51 [.d (slT enc_api_Decl a0.p.Decls), .d (slT enc_sl_sl_api_Need a0.p.Waits), .d (slT enc_api_Func a0.p.Funcs), .d (slT enc_api_Ins a0.code), .own 1, .own 2, .d (.int .i64 a0.at_), .d (.int .i64 a0.err)])] := by
  refine LJ.Spec.code Try.func15 rfl 8 rfl rfl [0] rfl fun w0 F0 S0 B0 => ?_
  unfold depth_walk_least at H
  refine WC.seq ?_
  refine WC.region ?_
  refine WL.run 1 tt_ok sg0 rfl rfl trivial ?_
  refine WL.nil ?_
  refine QT.n ?_
  refine WC.seq ?_
  refine WC.region ?_
  refine WL.run 4 tt_ok sg0 rfl rfl trivial ?_
  obtain ⟨x1, hx1, H⟩ := of_bind H
  refine WL.callB (slices_Index___bool_bool__0 _ _ hx1) slices_Index___bool_bool__f rfl (.own enc_bool a0.next rfl rfl (.op rfl .nil)) rfl rfl rfl rfl ?_
  refine WL.run 1 tt_ok sg0 rfl rfl trivial ?_
  refine WL.nil ?_
  refine QT.n ?_
  refine WC.ret ?_
  cases H
  exact Ends.auto rfl rfl rfl ⟨rfl, rfl, rfl, trivial⟩
theorem depth_walk_least_s (n0 n1 n2 : Nat) (hn : nodupB [n0, n1, n2] = true) (a0 : T_depth_walk) {r : Int} (H : depth_walk_least a0 = some r) : LJ.Spec Try.prog 15 [.ptr n0 0] [(n0, .box 51 [.d (slT enc_api_Decl a0.p.Decls), .d (slT enc_sl_sl_api_Need a0.p.Waits), .d (slT enc_api_Func a0.p.Funcs), .d (slT enc_api_Ins a0.code), .own n1, .own n2, .d (.int .i64 a0.at_), .d (.int .i64 a0.err)]), (n1, .row 3 1 (a0.depth.map enc_i64)), (n2, .row 4 1 (a0.next.map enc_bool))] (.d (.int .i64 r)) [(n1, .row 3 1 (a0.depth.map enc_i64)), (n2, .row 4 1 (a0.next.map enc_bool)), (n0, .box 51 [.d (slT enc_api_Decl a0.p.Decls), .d (slT enc_sl_sl_api_Need a0.p.Waits), .d (slT enc_api_Func a0.p.Funcs), .d (slT enc_api_Ins a0.code), .own n1, .own n2, .d (.int .i64 a0.at_), .d (.int .i64 a0.err)])] :=
  Spec.names [n0, n1, n2] hn rfl rfl (depth_walk_least_0 a0 H)
theorem depth_walk_least_f : hasFunc Try.prog 15 Try.f15 := ⟨Try.func15, rfl, by kernel_rfl⟩

/-! ### logjam/op.known -/
theorem op_known_0 (a0 : Int) {r : Bool} (H : op_known a0 = some r) : LJ.Spec Try.prog 37 [.d (.int .i64 a0)] [] (.d (.bool r)) [] := by
  refine LJ.Spec.code Try.func37 rfl 9 rfl rfl [] rfl fun w0 F0 S0 B0 => ?_
  unfold op_known at H
  refine WC.seq ?_
  refine WC.region ?_
  refine WL.run 1 tt_ok sg0 rfl rfl trivial ?_
  refine WL.nil ?_
  refine QT.n ?_
  refine WC.seq ?_
  refine WC.region ?_
  refine WL.run 3 tt_ok sg0 rfl rfl trivial ?_
  refine WL.sect 2 2 true tt_ok sg0 rfl rfl (fun _ => trivial) ?_
  refine WL.run 2 tt_ok sg0 rfl rfl ⟨by first | exact id | exact fun h => by rw [h]; rfl | simp_all, trivial⟩ ?_
  refine WL.nil ?_
  refine QT.n ?_
  refine WC.ret ?_
  cases H
  exact Ends.auto rfl rfl rfl trivial
theorem op_known_f : hasFunc Try.prog 37 Try.f37 := ⟨Try.func37, rfl, by kernel_rfl⟩

/-! ### logjam/op.shape -/
theorem op_shape_0 (a0 : Int) {r : Int} (H : op_shape a0 = some r) : LJ.Spec Try.prog 36 [.d (.int .i64 a0)] [] (.d (.int .i64 r)) [] := by
  refine LJ.Spec.code Try.func36 rfl 39 rfl rfl [] rfl fun w0 F0 S0 B0 => ?_
  unfold op_shape at H
  refine WC.seq ?_
  refine WC.region ?_
  refine WL.run 1 tt_ok sg0 rfl rfl trivial ?_
  refine WL.nil ?_
  refine QT.n ?_
  refine WC.seq ?_
  refine WC.seq ?_
  refine WC.region ?_
  refine WL.run 1 tt_ok sg0 rfl rfl trivial ?_
  refine WL.nil ?_
  refine QT.n ?_
  refine WC.block ?_
  refine WC.seq ?_
  refine WC.seq ?_
  refine WC.region ?_
  refine WL.run 2 tt_ok sg0 rfl rfl trivial ?_
  refine WL.nil ?_
  refine QT.n ?_
  refine WC.cond rfl (fun h1 => ?_) (fun h1 => ?_)
  · replace H := of_t H h1
    refine WC.known (g := 4) true rfl h1 ?_
    refine WC.skip ?_
    refine QT.n ?_
    refine WC.cond rfl (fun h => ?_) (fun h => absurd h (by decide))
    refine WC.seq ?_
    refine WC.region ?_
    refine WL.run 1 tt_ok sg0 rfl rfl trivial ?_
    refine WL.nil ?_
    refine QT.n ?_
    refine WC.ret ?_
    refine QB.r (QT.r ?_)
    cases H
    exact Ends.auto rfl rfl rfl trivial
  replace H := of_f H h1
  refine WC.seq ?_
  refine WC.region ?_
  refine WL.run 2 tt_ok sg0 rfl rfl trivial ?_
  refine WL.nil ?_
  refine QT.n ?_
  refine WC.cond rfl (fun h2 => ?_) (fun h2 => ?_)
  · replace H := of_t H h2
    refine WC.known (g := 4) true rfl h2 ?_
    refine WC.skip ?_
    refine QT.n ?_
    refine WC.cond rfl (fun h => ?_) (fun h => absurd h (by decide))
    refine WC.seq ?_
    refine WC.region ?_
    refine WL.run 1 tt_ok sg0 rfl rfl trivial ?_
    refine WL.nil ?_
    refine QT.n ?_
    refine WC.ret ?_
    refine QB.r (QT.r ?_)
    cases H
    exact Ends.auto rfl rfl rfl trivial
  replace H := of_f H h2
  refine WC.seq ?_
  refine WC.region ?_
  refine WL.run 2 tt_ok sg0 rfl rfl trivial ?_
  refine WL.nil ?_
  refine QT.n ?_
  refine WC.cond rfl (fun h3 => ?_) (fun h3 => ?_)
  · replace H := of_t H h3
    refine WC.known (g := 4) true rfl h3 ?_
    refine WC.skip ?_
    refine QT.n ?_
    refine WC.cond rfl (fun h => ?_) (fun h => absurd h (by decide))
    refine WC.seq ?_
    refine WC.region ?_
    refine WL.run 1 tt_ok sg0 rfl rfl trivial ?_
    refine WL.nil ?_
    refine QT.n ?_
    refine WC.ret ?_
    refine QB.r (QT.r ?_)
    cases H
    exact Ends.auto rfl rfl rfl trivial
  replace H := of_f H h3
  refine WC.region ?_
  refine WL.run 2 tt_ok sg0 rfl rfl trivial ?_
  refine WL.nil ?_
  refine QT.n ?_
  refine WC.cond rfl (fun h4 => ?_) (fun h4 => ?_)
  · replace H := of_t H h4
    refine WC.seq ?_
    refine WC.region ?_
    refine WL.run 1 tt_ok sg0 rfl rfl trivial ?_
    refine WL.nil ?_
    refine QT.n ?_
    refine WC.ret ?_
    refine QB.r (QT.r ?_)
    cases H
    exact Ends.auto rfl rfl rfl trivial
  replace H := of_f H h4
  refine WC.seq ?_
  refine WC.seq ?_
  refine WC.region ?_
  refine WL.run 2 tt_ok sg0 rfl rfl trivial ?_
  refine WL.nil ?_
  refine QT.n ?_
  refine WC.cond rfl (fun h5 => ?_) (fun h5 => ?_)
  · replace H := of_t H h5
    refine WC.known (g := 9) true rfl h5 ?_
    refine WC.skip ?_
    refine QT.n ?_
    refine WC.cond rfl (fun h => ?_) (fun h => absurd h (by decide))
    refine WC.seq ?_
    refine WC.region ?_
    refine WL.run 1 tt_ok sg0 rfl rfl trivial ?_
    refine WL.nil ?_
    refine QT.n ?_
    refine WC.ret ?_
    refine QB.r (QT.r ?_)
    cases H
    exact Ends.auto rfl rfl rfl trivial
  replace H := of_f H h5
  refine WC.region ?_
  refine WL.run 2 tt_ok sg0 rfl rfl trivial ?_
  refine WL.nil ?_
  refine QT.n ?_
  refine WC.cond rfl (fun h6 => ?_) (fun h6 => ?_)
  · replace H := of_t H h6
    refine WC.seq ?_
    refine WC.region ?_
    refine WL.run 1 tt_ok sg0 rfl rfl trivial ?_
    refine WL.nil ?_
    refine QT.n ?_
    refine WC.ret ?_
    refine QB.r (QT.r ?_)
    cases H
    exact Ends.auto rfl rfl rfl trivial
  replace H := of_f H h6
  refine WC.seq ?_
  refine WC.region ?_
  refine WL.run 2 tt_ok sg0 rfl rfl trivial ?_
  refine WL.nil ?_
  refine QT.n ?_
  refine WC.cond rfl (fun h7 => ?_) (fun h7 => ?_)
  · replace H := of_t H h7
    refine WC.seq ?_
    refine WC.region ?_
    refine WL.run 1 tt_ok sg0 rfl rfl trivial ?_
    refine WL.nil ?_
    refine QT.n ?_
    refine WC.ret ?_
    refine QB.r (QT.r ?_)
    cases H
    exact Ends.auto rfl rfl rfl trivial
  replace H := of_f H h7
  refine WC.seq ?_
  refine WC.region ?_
  refine WL.run 2 tt_ok sg0 rfl rfl trivial ?_
  refine WL.nil ?_
  refine QT.n ?_
  refine WC.cond rfl (fun h8 => ?_) (fun h8 => ?_)
  · replace H := of_t H h8
    refine WC.seq ?_
    refine WC.region ?_
    refine WL.run 1 tt_ok sg0 rfl rfl trivial ?_
    refine WL.nil ?_
    refine QT.n ?_
    refine WC.ret ?_
    refine QB.r (QT.r ?_)
    cases H
    exact Ends.auto rfl rfl rfl trivial
  replace H := of_f H h8
  refine WC.seq ?_
  refine WC.seq ?_
  refine WC.region ?_
  refine WL.run 2 tt_ok sg0 rfl rfl trivial ?_
  refine WL.nil ?_
  refine QT.n ?_
  refine WC.cond rfl (fun h9 => ?_) (fun h9 => ?_)
  · replace H := of_t H h9
    refine WC.known (g := 16) true rfl h9 ?_
    refine WC.skip ?_
    refine QT.n ?_
    refine WC.cond rfl (fun h => ?_) (fun h => absurd h (by decide))
    refine WC.seq ?_
    refine WC.region ?_
    refine WL.run 1 tt_ok sg0 rfl rfl trivial ?_
    refine WL.nil ?_
    refine QT.n ?_
    refine WC.ret ?_
    refine QB.r (QT.r ?_)
    cases H
    exact Ends.auto rfl rfl rfl trivial
  replace H := of_f H h9
  refine WC.region ?_
  refine WL.run 2 tt_ok sg0 rfl rfl trivial ?_
  refine WL.nil ?_
  refine QT.n ?_
  refine WC.cond rfl (fun h10 => ?_) (fun h10 => ?_)
  · replace H := of_t H h10
    refine WC.seq ?_
    refine WC.region ?_
    refine WL.run 1 tt_ok sg0 rfl rfl trivial ?_
    refine WL.nil ?_
    refine QT.n ?_
    refine WC.ret ?_
    refine QB.r (QT.r ?_)
    cases H
    exact Ends.auto rfl rfl rfl trivial
  replace H := of_f H h10
  refine WC.seq ?_
  refine WC.seq ?_
  refine WC.region ?_
  refine WL.run 2 tt_ok sg0 rfl rfl trivial ?_
  refine WL.nil ?_
  refine QT.n ?_
  refine WC.cond rfl (fun h11 => ?_) (fun h11 => ?_)
  · replace H := of_t H h11
    refine WC.known (g := 19) true rfl h11 ?_
    refine WC.skip ?_
    refine QT.n ?_
    refine WC.cond rfl (fun h => ?_) (fun h => absurd h (by decide))
    refine WC.seq ?_
    refine WC.region ?_
    refine WL.run 1 tt_ok sg0 rfl rfl trivial ?_
    refine WL.nil ?_
    refine QT.n ?_
    refine WC.ret ?_
    refine QB.r (QT.r ?_)
    cases H
    exact Ends.auto rfl rfl rfl trivial
  replace H := of_f H h11
  refine WC.seq ?_
  refine WC.region ?_
  refine WL.run 2 tt_ok sg0 rfl rfl trivial ?_
  refine WL.nil ?_
  refine QT.n ?_
  refine WC.cond rfl (fun h12 => ?_) (fun h12 => ?_)
  · replace H := of_t H h12
    refine WC.known (g := 19) true rfl h12 ?_
    refine WC.skip ?_
    refine QT.n ?_
    refine WC.cond rfl (fun h => ?_) (fun h => absurd h (by decide))
    refine WC.seq ?_
    refine WC.region ?_
    refine WL.run 1 tt_ok sg0 rfl rfl trivial ?_
    refine WL.nil ?_
    refine QT.n ?_
    refine WC.ret ?_
    refine QB.r (QT.r ?_)
    cases H
    exact Ends.auto rfl rfl rfl trivial
  replace H := of_f H h12
  refine WC.seq ?_
  refine WC.region ?_
  refine WL.run 2 tt_ok sg0 rfl rfl trivial ?_
  refine WL.nil ?_
  refine QT.n ?_
  refine WC.cond rfl (fun h13 => ?_) (fun h13 => ?_)
  · replace H := of_t H h13
    refine WC.known (g := 19) true rfl h13 ?_
    refine WC.skip ?_
    refine QT.n ?_
    refine WC.cond rfl (fun h => ?_) (fun h => absurd h (by decide))
    refine WC.seq ?_
    refine WC.region ?_
    refine WL.run 1 tt_ok sg0 rfl rfl trivial ?_
    refine WL.nil ?_
    refine QT.n ?_
    refine WC.ret ?_
    refine QB.r (QT.r ?_)
    cases H
    exact Ends.auto rfl rfl rfl trivial
  replace H := of_f H h13
  refine WC.seq ?_
  refine WC.region ?_
  refine WL.run 2 tt_ok sg0 rfl rfl trivial ?_
  refine WL.nil ?_
  refine QT.n ?_
  refine WC.cond rfl (fun h14 => ?_) (fun h14 => ?_)
  · replace H := of_t H h14
    refine WC.known (g := 19) true rfl h14 ?_
    refine WC.skip ?_
    refine QT.n ?_
    refine WC.cond rfl (fun h => ?_) (fun h => absurd h (by decide))
    refine WC.seq ?_
    refine WC.region ?_
    refine WL.run 1 tt_ok sg0 rfl rfl trivial ?_
    refine WL.nil ?_
    refine QT.n ?_
    refine WC.ret ?_
    refine QB.r (QT.r ?_)
    cases H
    exact Ends.auto rfl rfl rfl trivial
  replace H := of_f H h14
  refine WC.seq ?_
  refine WC.region ?_
  refine WL.run 2 tt_ok sg0 rfl rfl trivial ?_
  refine WL.nil ?_
  refine QT.n ?_
  refine WC.cond rfl (fun h15 => ?_) (fun h15 => ?_)
  · replace H := of_t H h15
    refine WC.known (g := 19) true rfl h15 ?_
    refine WC.skip ?_
    refine QT.n ?_
    refine WC.cond rfl (fun h => ?_) (fun h => absurd h (by decide))
    refine WC.seq ?_
    refine WC.region ?_
    refine WL.run 1 tt_ok sg0 rfl rfl trivial ?_
    refine WL.nil ?_
    refine QT.n ?_
    refine WC.ret ?_
    refine QB.r (QT.r ?_)
    cases H
    exact Ends.auto rfl rfl rfl trivial
  replace H := of_f H h15
  refine WC.seq ?_
  refine WC.region ?_
  refine WL.run 2 tt_ok sg0 rfl rfl trivial ?_
  refine WL.nil ?_
  refine QT.n ?_
  refine WC.cond rfl (fun h16 => ?_) (fun h16 => ?_)
  · replace H := of_t H h16
    refine WC.known (g := 19) true rfl h16 ?_
    refine WC.skip ?_
    refine QT.n ?_
    refine WC.cond rfl (fun h => ?_) (fun h => absurd h (by decide))
    refine WC.seq ?_
    refine WC.region ?_
    refine WL.run 1 tt_ok sg0 rfl rfl trivial ?_
    refine WL.nil ?_
    refine QT.n ?_
    refine WC.ret ?_
    refine QB.r (QT.r ?_)
    cases H
    exact Ends.auto rfl rfl rfl trivial
  replace H := of_f H h16
  refine WC.seq ?_
  refine WC.region ?_
  refine WL.run 2 tt_ok sg0 rfl rfl trivial ?_
  refine WL.nil ?_
  refine QT.n ?_
  refine WC.cond rfl (fun h17 => ?_) (fun h17 => ?_)
  · replace H := of_t H h17
    refine WC.known (g := 19) true rfl h17 ?_
    refine WC.skip ?_
    refine QT.n ?_
    refine WC.cond rfl (fun h => ?_) (fun h => absurd h (by decide))
    refine WC.seq ?_
    refine WC.region ?_
    refine WL.run 1 tt_ok sg0 rfl rfl trivial ?_
    refine WL.nil ?_
    refine QT.n ?_
    refine WC.ret ?_
    refine QB.r (QT.r ?_)
    cases H
    exact Ends.auto rfl rfl rfl trivial
  replace H := of_f H h17
  refine WC.seq ?_
  refine WC.region ?_
  refine WL.run 2 tt_ok sg0 rfl rfl trivial ?_
  refine WL.nil ?_
  refine QT.n ?_
  refine WC.cond rfl (fun h18 => ?_) (fun h18 => ?_)
  · replace H := of_t H h18
    refine WC.known (g := 19) true rfl h18 ?_
    refine WC.skip ?_
    refine QT.n ?_
    refine WC.cond rfl (fun h => ?_) (fun h => absurd h (by decide))
    refine WC.seq ?_
    refine WC.region ?_
    refine WL.run 1 tt_ok sg0 rfl rfl trivial ?_
    refine WL.nil ?_
    refine QT.n ?_
    refine WC.ret ?_
    refine QB.r (QT.r ?_)
    cases H
    exact Ends.auto rfl rfl rfl trivial
  replace H := of_f H h18
  refine WC.seq ?_
  refine WC.region ?_
  refine WL.run 2 tt_ok sg0 rfl rfl trivial ?_
  refine WL.nil ?_
  refine QT.n ?_
  refine WC.cond rfl (fun h19 => ?_) (fun h19 => ?_)
  · replace H := of_t H h19
    refine WC.known (g := 19) true rfl h19 ?_
    refine WC.skip ?_
    refine QT.n ?_
    refine WC.cond rfl (fun h => ?_) (fun h => absurd h (by decide))
    refine WC.seq ?_
    refine WC.region ?_
    refine WL.run 1 tt_ok sg0 rfl rfl trivial ?_
    refine WL.nil ?_
    refine QT.n ?_
    refine WC.ret ?_
    refine QB.r (QT.r ?_)
    cases H
    exact Ends.auto rfl rfl rfl trivial
  replace H := of_f H h19
  refine WC.seq ?_
  refine WC.region ?_
  refine WL.run 2 tt_ok sg0 rfl rfl trivial ?_
  refine WL.nil ?_
  refine QT.n ?_
  refine WC.cond rfl (fun h20 => ?_) (fun h20 => ?_)
  · replace H := of_t H h20
    refine WC.known (g := 19) true rfl h20 ?_
    refine WC.skip ?_
    refine QT.n ?_
    refine WC.cond rfl (fun h => ?_) (fun h => absurd h (by decide))
    refine WC.seq ?_
    refine WC.region ?_
    refine WL.run 1 tt_ok sg0 rfl rfl trivial ?_
    refine WL.nil ?_
    refine QT.n ?_
    refine WC.ret ?_
    refine QB.r (QT.r ?_)
    cases H
    exact Ends.auto rfl rfl rfl trivial
  replace H := of_f H h20
  refine WC.region ?_
  refine WL.run 2 tt_ok sg0 rfl rfl trivial ?_
  refine WL.nil ?_
  refine QT.n ?_
  refine WC.cond rfl (fun h21 => ?_) (fun h21 => ?_)
  · replace H := of_t H h21
    refine WC.seq ?_
    refine WC.region ?_
    refine WL.run 1 tt_ok sg0 rfl rfl trivial ?_
    refine WL.nil ?_
    refine QT.n ?_
    refine WC.ret ?_
    refine QB.r (QT.r ?_)
    cases H
    exact Ends.auto rfl rfl rfl trivial
  replace H := of_f H h21
  refine WC.skip ?_
  refine QB.n (QT.n ?_)
  refine WC.seq ?_
  refine WC.seq ?_
  refine WC.region ?_
  refine WL.run 3 tt_ok sg0 rfl rfl trivial ?_
  refine WL.sect 2 2 true tt_ok sg0 rfl rfl (fun _ => trivial) ?_
  refine WL.run 1 tt_ok sg0 rfl rfl ⟨by first | exact id | exact fun h => by rw [h]; rfl | simp_all, trivial⟩ ?_
  refine WL.nil ?_
  refine QT.n ?_
  refine WC.cond rfl (fun h22 => ?_) (fun h22 => ?_)
  · replace H := of_t H h22
    refine WC.seq ?_
    refine WC.region ?_
    refine WL.run 1 tt_ok sg0 rfl rfl trivial ?_
    refine WL.nil ?_
    refine QT.n ?_
    refine WC.ret ?_
    refine QT.r ?_
    cases H
    exact Ends.auto rfl rfl rfl trivial
  replace H := of_f H h22
  refine WC.skip ?_
  refine QT.n ?_
  refine WC.seq ?_
  refine WC.seq ?_
  refine WC.region ?_
  refine WL.run 1 tt_ok sg0 rfl rfl trivial ?_
  obtain ⟨x23, hx23, H⟩ := of_bind H
  refine WL.call [] (op_known_0 _ hx23) op_known_f rfl rfl trivial rfl rfl rfl ?_
  refine WL.nil ?_
  refine QT.n ?_
  refine WC.cond rfl (fun h24 => ?_) (fun h24 => ?_)
  · replace H := of_t H h24
    refine WC.seq ?_
    refine WC.region ?_
    refine WL.run 1 tt_ok sg0 rfl rfl trivial ?_
    refine WL.nil ?_
    refine QT.n ?_
    refine WC.ret ?_
    refine QT.r ?_
    cases H
    exact Ends.auto rfl rfl rfl trivial
  replace H := of_f H h24
  refine WC.skip ?_
  refine QT.n ?_
  refine WC.seq ?_
  refine WC.region ?_
  refine WL.run 1 tt_ok sg0 rfl rfl trivial ?_
  refine WL.nil ?_
  refine QT.n ?_
  refine WC.ret ?_
  cases H
  exact Ends.auto rfl rfl rfl trivial
theorem op_shape_f : hasFunc Try.prog 36 Try.f36 := ⟨Try.func36, rfl, by kernel_rfl⟩

/-! ### logjam/op.Pops -/
theorem op_Pops_0 (a0 : T_api_Ins) (a1 : Int) {r : Int} (H : op_Pops a0 a1 = some r) : LJ.Spec Try.prog 25 [.d (.agg [.int .i64 a0.Op, .int .i64 a0.A, .int .i64 a0.B]), .d (.int .i64 a1)] [] (.d (.int .i64 r)) [] := by
  refine LJ.Spec.code Try.func25 rfl 35 rfl rfl [] rfl fun w0 F0 S0 B0 => ?_
  unfold op_Pops at H
  refine WC.seq ?_
  refine WC.region ?_
  refine WL.eff 102 tt_ok et_ok eg0 rfl rfl rfl trivial ?_
  refine WL.run 1 tt_ok sg0 rfl rfl trivial ?_
  refine WL.nil ?_
  refine QT.n ?_
  refine WC.seq ?_
  refine WC.region ?_
  refine WL.run 1 tt_ok sg0 rfl rfl trivial ?_
  refine WL.nil ?_
  refine QT.n ?_
  refine WC.seq ?_
  refine WC.seq ?_
  refine WC.region ?_
  refine WL.run 2 tt_ok sg0 rfl rfl trivial ?_
  refine WL.nil ?_
  refine QT.n ?_
  refine WC.block ?_
  obtain ⟨K1, hK1, H⟩ := of_withK H
  refine WC.cut (fun E m => ∃ s2 : Int, K1 s2 = some r ∧ LessW E m [(2, .ptr 102 0), (5, .d (.int .i64 s2))] [(102, .box 40 [.d (.int .i64 a0.Op), .d (.int .i64 a0.A), .d (.int .i64 a0.B)])]) ?_ ?_
  · refine WC.block ?_
    refine WC.seq ?_
    refine WC.block ?_
    refine WC.seq ?_
    refine WC.block ?_
    refine WC.seq ?_
    refine WC.seq ?_
    refine WC.seq ?_
    refine WC.region ?_
    refine WL.run 2 tt_ok sg0 rfl rfl trivial ?_
    refine WL.nil ?_
    refine QT.n ?_
    refine WC.cond rfl (fun h3 => ?_) (fun h3 => ?_)
    · replace H := of_t H h3
      refine WC.exit ?_
      refine QT.x (QT.x (QB.hit (QT.n ?_)))
      refine WC.seq ?_
      refine WC.seq ?_
      refine WC.region ?_
      refine WL.run 2 tt_ok sg0 rfl rfl trivial ?_
      refine WL.nil ?_
      refine QT.n ?_
      refine WC.ret ?_
      refine QT.r (QB.r (QT.r (QB.r (QT.r (QB.r (QT.r ?_))))))
      cases H
      exact Ends.auto rfl rfl rfl trivial
    replace H := of_f H h3
    refine WC.skip ?_
    refine QT.n ?_
    refine WC.seq ?_
    refine WC.seq ?_
    refine WC.region ?_
    refine WL.run 2 tt_ok sg0 rfl rfl trivial ?_
    refine WL.nil ?_
    refine QT.n ?_
    refine WC.cond rfl (fun h4 => ?_) (fun h4 => ?_)
    · replace H := of_t H h4
      refine WC.exit ?_
      refine QT.x (QT.x (QB.miss rfl (QT.x (QB.hit (QT.n ?_)))))
      refine WC.region ?_
      refine WL.run 3 tt_ok sg0 rfl rfl trivial ?_
      refine WL.nil ?_
      refine QB.n (QT.n ?_)
      exact ⟨IntKind.i64.wrap ((0 : Int) + 1), H, LessW.mk' ⟨AVle.of rfl, AVle.of rfl, trivial⟩ ⟨rfl, trivial⟩⟩
    replace H := of_f H h4
    refine WC.skip ?_
    refine QT.n ?_
    refine WC.seq ?_
    refine WC.region ?_
    refine WL.run 2 tt_ok sg0 rfl rfl trivial ?_
    refine WL.nil ?_
    refine QT.n ?_
    refine WC.cond rfl (fun h5 => ?_) (fun h5 => ?_)
    · replace H := of_t H h5
      refine WC.exit ?_
      refine QT.x (QB.miss rfl (QT.x (QB.miss rfl (QT.x (QB.hit (QT.n ?_))))))
      exact ⟨0, H, LessW.mk' ⟨AVle.of rfl, AVle.of rfl, trivial⟩ ⟨rfl, trivial⟩⟩
    replace H := of_f H h5
    refine WC.skip ?_
    refine QT.n ?_
    refine WC.exit ?_
    refine QB.miss rfl (QT.x (QB.miss rfl (QT.x (QB.miss rfl (QT.x (QB.hit (QT.n ?_)))))))
    refine WC.seq ?_
    refine WC.seq ?_
    refine WC.region ?_
    refine WL.run 2 tt_ok sg0 rfl rfl trivial ?_
    obtain ⟨x6, hx6, H⟩ := of_bind H
    refine WL.call [] (op_shape_0 _ hx6) op_shape_f rfl rfl trivial rfl rfl rfl ?_
    refine WL.nil ?_
    refine QT.n ?_
    refine WC.block ?_
    obtain ⟨K7, hK7, H⟩ := of_withK H
    refine WC.cut (fun E m => ∃ s8 : Int, K7 s8 = some r ∧ LessW E m [(5, .d (.int .i64 s8))] []) ?_ ?_
    · refine WC.block ?_
      refine WC.seq ?_
      refine WC.block ?_
      refine WC.seq ?_
      refine WC.seq ?_
      refine WC.seq ?_
      refine WC.region ?_
      refine WL.run 2 tt_ok sg0 rfl rfl trivial ?_
      refine WL.nil ?_
      refine QT.n ?_
      refine WC.cond rfl (fun h9 => ?_) (fun h9 => ?_)
      · replace H := of_t H h9
        refine WC.exit ?_
        refine QT.x (QT.x (QB.hit (QT.n ?_)))
        refine WC.region ?_
        refine WL.run 3 tt_ok sg0 rfl rfl trivial ?_
        refine WL.nil ?_
        refine QB.n (QT.n ?_)
        exact ⟨IntKind.i64.wrap ((0 : Int) + 1), H, LessW.mk' ⟨AVle.of rfl, trivial⟩ trivial⟩
      replace H := of_f H h9
      refine WC.skip ?_
      refine QT.n ?_
      refine WC.seq ?_
      refine WC.seq ?_
      refine WC.region ?_
      refine WL.run 2 tt_ok sg0 rfl rfl trivial ?_
      refine WL.nil ?_
      refine QT.n ?_
      refine WC.cond rfl (fun h10 => ?_) (fun h10 => ?_)
      · replace H := of_t H h10
        refine WC.known (g := 26) true rfl h10 ?_
        refine WC.skip ?_
        refine QT.n ?_
        refine WC.cond rfl (fun h => ?_) (fun h => absurd h (by decide))
        refine WC.exit ?_
        refine QT.x (QB.miss rfl (QT.x (QB.hit (QT.n ?_))))
        exact ⟨0, H, LessW.mk' ⟨AVle.of rfl, trivial⟩ trivial⟩
      replace H := of_f H h10
      refine WC.seq ?_
      refine WC.region ?_
      refine WL.run 2 tt_ok sg0 rfl rfl trivial ?_
      refine WL.nil ?_
      refine QT.n ?_
      refine WC.cond rfl (fun h11 => ?_) (fun h11 => ?_)
      · replace H := of_t H h11
        refine WC.known (g := 26) true rfl h11 ?_
        refine WC.skip ?_
        refine QT.n ?_
        refine WC.cond rfl (fun h => ?_) (fun h => absurd h (by decide))
        refine WC.exit ?_
        refine QT.x (QB.miss rfl (QT.x (QB.hit (QT.n ?_))))
        exact ⟨0, H, LessW.mk' ⟨AVle.of rfl, trivial⟩ trivial⟩
      replace H := of_f H h11
      refine WC.region ?_
      refine WL.run 2 tt_ok sg0 rfl rfl trivial ?_
      refine WL.nil ?_
      refine QT.n ?_
      refine WC.cond rfl (fun h12 => ?_) (fun h12 => ?_)
      · replace H := of_t H h12
        refine WC.exit ?_
        refine QT.x (QB.miss rfl (QT.x (QB.hit (QT.n ?_))))
        exact ⟨0, H, LessW.mk' ⟨AVle.of rfl, trivial⟩ trivial⟩
      replace H := of_f H h12
      refine WC.skip ?_
      refine QT.n ?_
      refine WC.exit ?_
      refine QB.miss rfl (QT.x (QB.miss rfl (QT.x (QB.hit (QT.n ?_)))))
      refine WC.seq ?_
      refine WC.region ?_
      refine WL.run 2 tt_ok sg0 rfl rfl trivial ?_
      refine WL.nil ?_
      refine QT.n ?_
      refine WC.ret ?_
      cases H
      exact Ends.auto rfl rfl rfl trivial
    · rintro E m ⟨s8, H, hl⟩
      refine WC.lessW hl ?_
      replace H := (hK7 _).symm.trans H
      try dsimp only at H
      refine WC.seq ?_
      refine WC.region ?_
      refine WL.run 3 tt_ok sg0 rfl rfl trivial ?_
      refine WL.nil ?_
      refine QT.n ?_
      refine WC.exit ?_
      refine QB.hit (QT.n ?_)
      refine WC.seq ?_
      refine WC.region ?_
      refine WL.run 2 tt_ok sg0 rfl rfl trivial ?_
      refine WL.nil ?_
      refine QT.n ?_
      refine WC.ret ?_
      cases H
      exact Ends.auto rfl rfl rfl trivial
  · rintro E m ⟨s2, H, hl⟩
    refine WC.lessW hl ?_
    replace H := (hK1 _).symm.trans H
    try dsimp only at H
    refine WC.seq ?_
    refine WC.seq ?_
    refine WC.region ?_
    refine WL.run 5 tt_ok sg0 rfl rfl trivial ?_
    refine WL.nil ?_
    refine QT.n ?_
    refine WC.ret ?_
    refine QT.r (QB.r (QT.r ?_))
    cases H
    exact Ends.auto rfl rfl rfl trivial
theorem op_Pops_f : hasFunc Try.prog 25 Try.f25 := ⟨Try.func25, rfl, by kernel_rfl⟩

/-! ### logjam/op.Pushes -/
theorem op_Pushes_0 (a0 : Int) {r : Int} (H : op_Pushes a0 = some r) : LJ.Spec Try.prog 26 [.d (.int .i64 a0)] [] (.d (.int .i64 r)) [] := by
  refine LJ.Spec.code Try.func26 rfl 12 rfl rfl [] rfl fun w0 F0 S0 B0 => ?_
  unfold op_Pushes at H
  refine WC.seq ?_
  refine WC.region ?_
  refine WL.run 1 tt_ok sg0 rfl rfl trivial ?_
  refine WL.nil ?_
  refine QT.n ?_
  refine WC.seq ?_
  refine WC.seq ?_
  refine WC.region ?_
  refine WL.run 1 tt_ok sg0 rfl rfl trivial ?_
  obtain ⟨x1, hx1, H⟩ := of_bind H
  refine WL.call [] (op_shape_0 _ hx1) op_shape_f rfl rfl trivial rfl rfl rfl ?_
  refine WL.nil ?_
  refine QT.n ?_
  refine WC.block ?_
  refine WC.seq ?_
  refine WC.seq ?_
  refine WC.region ?_
  refine WL.run 2 tt_ok sg0 rfl rfl trivial ?_
  refine WL.nil ?_
  refine QT.n ?_
  refine WC.cond rfl (fun h2 => ?_) (fun h2 => ?_)
  · replace H := of_t H h2
    refine WC.known (g := 5) true rfl h2 ?_
    refine WC.skip ?_
    refine QT.n ?_
    refine WC.cond rfl (fun h => ?_) (fun h => absurd h (by decide))
    refine WC.seq ?_
    refine WC.region ?_
    refine WL.run 1 tt_ok sg0 rfl rfl trivial ?_
    refine WL.nil ?_
    refine QT.n ?_
    refine WC.ret ?_
    refine QB.r (QT.r ?_)
    cases H
    exact Ends.auto rfl rfl rfl trivial
  replace H := of_f H h2
  refine WC.region ?_
  refine WL.run 2 tt_ok sg0 rfl rfl trivial ?_
  refine WL.nil ?_
  refine QT.n ?_
  refine WC.cond rfl (fun h3 => ?_) (fun h3 => ?_)
  · replace H := of_t H h3
    refine WC.seq ?_
    refine WC.region ?_
    refine WL.run 1 tt_ok sg0 rfl rfl trivial ?_
    refine WL.nil ?_
    refine QT.n ?_
    refine WC.ret ?_
    refine QB.r (QT.r ?_)
    cases H
    exact Ends.auto rfl rfl rfl trivial
  replace H := of_f H h3
  refine WC.seq ?_
  refine WC.seq ?_
  refine WC.region ?_
  refine WL.run 2 tt_ok sg0 rfl rfl trivial ?_
  refine WL.nil ?_
  refine QT.n ?_
  refine WC.cond rfl (fun h4 => ?_) (fun h4 => ?_)
  · replace H := of_t H h4
    refine WC.known (g := 8) true rfl h4 ?_
    refine WC.skip ?_
    refine QT.n ?_
    refine WC.cond rfl (fun h => ?_) (fun h => absurd h (by decide))
    refine WC.seq ?_
    refine WC.region ?_
    refine WL.run 1 tt_ok sg0 rfl rfl trivial ?_
    refine WL.nil ?_
    refine QT.n ?_
    refine WC.ret ?_
    refine QB.r (QT.r ?_)
    cases H
    exact Ends.auto rfl rfl rfl trivial
  replace H := of_f H h4
  refine WC.seq ?_
  refine WC.region ?_
  refine WL.run 2 tt_ok sg0 rfl rfl trivial ?_
  refine WL.nil ?_
  refine QT.n ?_
  refine WC.cond rfl (fun h5 => ?_) (fun h5 => ?_)
  · replace H := of_t H h5
    refine WC.known (g := 8) true rfl h5 ?_
    refine WC.skip ?_
    refine QT.n ?_
    refine WC.cond rfl (fun h => ?_) (fun h => absurd h (by decide))
    refine WC.seq ?_
    refine WC.region ?_
    refine WL.run 1 tt_ok sg0 rfl rfl trivial ?_
    refine WL.nil ?_
    refine QT.n ?_
    refine WC.ret ?_
    refine QB.r (QT.r ?_)
    cases H
    exact Ends.auto rfl rfl rfl trivial
  replace H := of_f H h5
  refine WC.region ?_
  refine WL.run 2 tt_ok sg0 rfl rfl trivial ?_
  refine WL.nil ?_
  refine QT.n ?_
  refine WC.cond rfl (fun h6 => ?_) (fun h6 => ?_)
  · replace H := of_t H h6
    refine WC.seq ?_
    refine WC.region ?_
    refine WL.run 1 tt_ok sg0 rfl rfl trivial ?_
    refine WL.nil ?_
    refine QT.n ?_
    refine WC.ret ?_
    refine QB.r (QT.r ?_)
    cases H
    exact Ends.auto rfl rfl rfl trivial
  replace H := of_f H h6
  refine WC.skip ?_
  refine QB.n (QT.n ?_)
  refine WC.seq ?_
  refine WC.region ?_
  refine WL.run 1 tt_ok sg0 rfl rfl trivial ?_
  refine WL.nil ?_
  refine QT.n ?_
  refine WC.ret ?_
  cases H
  exact Ends.auto rfl rfl rfl trivial
theorem op_Pushes_f : hasFunc Try.prog 26 Try.f26 := ⟨Try.func26, rfl, by kernel_rfl⟩

/-! ### logjam/op.Goes -/
theorem op_Goes_0 (a0 : Int) {r : Bool} (H : op_Goes a0 = some r) : LJ.Spec Try.prog 27 [.d (.int .i64 a0)] [] (.d (.bool r)) [] := by
  refine LJ.Spec.code Try.func27 rfl 13 rfl rfl [] rfl fun w0 F0 S0 B0 => ?_
  unfold op_Goes at H
  refine WC.seq ?_
  refine WC.region ?_
  refine WL.run 1 tt_ok sg0 rfl rfl trivial ?_
  refine WL.nil ?_
  refine QT.n ?_
  refine WC.seq ?_
  refine WC.region ?_
  refine WL.run 1 tt_ok sg0 rfl rfl trivial ?_
  obtain ⟨x1, hx1, H⟩ := of_bind H
  refine WL.call [] (op_known_0 _ hx1) op_known_f rfl rfl trivial rfl rfl rfl ?_
  refine WL.run 1 tt_ok sg0 rfl rfl trivial ?_
  refine WL.sect 2 2 true tt_ok sg0 rfl rfl (fun _ => trivial) ?_
  refine WL.run 2 tt_ok sg0 rfl rfl ⟨by first | exact id | exact fun h => by rw [h]; rfl | simp_all, trivial⟩ ?_
  refine WL.sect 2 6 true tt_ok sg0 rfl rfl (fun _ => trivial) ?_
  refine WL.run 2 tt_ok sg0 rfl rfl ⟨by first | exact id | exact fun h => by rw [h]; rfl | simp_all, trivial⟩ ?_
  refine WL.nil ?_
  refine QT.n ?_
  refine WC.ret ?_
  cases H
  exact Ends.auto rfl rfl rfl trivial
theorem op_Goes_f : hasFunc Try.prog 27 Try.f27 := ⟨Try.func27, rfl, by kernel_rfl⟩

/-! ### (*logjam/depth.walk).look -/
theorem depth_walk_look_0 (a0 : T_depth_walk) (a1 : Int) {r : T_depth_walk} (H : depth_walk_look a0 a1 = some r) : LJ.Spec Try.prog 16 [.ptr 0 0, .d (.int .i64 a1)] [(0, .box 51 [.d (slT enc_api_Decl a0.p.Decls), .d (slT enc_sl_sl_api_Need a0.p.Waits), .d (slT enc_api_Func a0.p.Funcs), .d (slT enc_api_Ins a0.code), .own 1, .own 2, .d (.int .i64 a0.at_), .d (.int .i64 a0.err)]), (1, .row 3 1 (a0.depth.map enc_i64)), (2, .row 4 1 (a0.next.map enc_bool))] (.tup []) [(1, .row 3 1 (r.depth.map enc_i64)), (2, .row 4 1 (r.next.map enc_bool)), (0, .box 51 [.d (slT enc_api_Decl r.p.Decls), .d (slT enc_sl_sl_api_Need r.p.Waits), .d (slT enc_api_Func r.p.Funcs), .d (slT enc_api_Ins r.code), .own 1, .own 2, .d (.int .i64 r.at_), .d (.int .i64 r.err)])] := by
  refine LJ.Spec.code Try.func16 rfl 90 rfl rfl [0] rfl fun w0 F0 S0 B0 => ?_
  unfold depth_walk_look at H
  refine WC.seq ?_
  refine WC.region ?_
  obtain ⟨g1, H⟩ := of_need H
  refine WL.run 7 tt_ok sg0 rfl rfl ⟨⟨(nIn_ok g1).1, (nIn_ok g1).2, rfl⟩, trivial⟩ ?_
  refine WL.alloc 104 tt_ok rfl rfl rfl ?_
  refine WL.eff 0 tt_ok et_ok eg0 rfl rfl rfl trivial ?_
  refine WL.run 1 tt_ok sg0 rfl rfl trivial ?_
  refine WL.nil ?_
  refine QT.n ?_
  refine WC.seq ?_
  refine WC.seq ?_
  refine WC.heldP (.one 0 true (.one 1 true (.one 2 true (.one 3 true (.one 4 true (.one 5 true (.one 6 true (.one 7 true (.one 8 true (.one 9 true (.one 10 true (.one 11 true (.one 12 true (.one 13 true .done)))))))))))))) [0, 104] [0, 104] rfl (by kernel_rfl) rfl (by kernel_rfl) rfl rfl (fun _ h => h) rfl rfl rfl (fun _ _ _ h => h) fun FK NK wK K => ?_
  refine WH.run 4 tt_ok rfl rfl rfl rfl trivial ?_
  refine WH.sect 9 3 true tt_ok rfl rfl rfl rfl (fun _ => trivial) ?_
  refine WH.run 1 tt_ok rfl rfl rfl rfl ⟨by first | exact id | exact fun h => by rw [h]; rfl | simp_all, trivial⟩ ?_
  refine WH.nil rfl ?_
  refine QT.n ?_
  refine WC.cond rfl (fun h2 => ?_) (fun h2 => ?_)
  · replace H := of_t H h2
    refine WC.heldP (.one 0 true (.one 1 true (.one 2 true (.one 3 true (.one 4 true (.one 5 true (.one 6 true (.one 7 true (.one 8 true (.one 9 true (.one 10 true .done))))))))))) [0, 104] [0, 104] rfl (by kernel_rfl) rfl (by kernel_rfl) rfl rfl (fun _ h => h) rfl rfl rfl (fun _ _ _ h => h) fun FK NK wK K => ?_
    obtain ⟨g3, H⟩ := of_need H
    refine WH.run 11 tt_ok rfl rfl rfl rfl ⟨⟨(nIn_ok g3).1, (nIn_ok g3).2, rfl⟩, trivial⟩ ?_
    refine WH.nil rfl ?_
    refine QT.n ?_
    refine WC.seq ?_
    obtain ⟨g3_5_1, H⟩ := of_need H
    obtain ⟨x3_9_1, hx3_9_1, H⟩ := of_bind H
    refine WC.heldF [(0, .ptr 0 0), (1, .d (.int .i64 a1)), (4, .ptr 104 0), (6, .d (.int .i64 (IntKind.i64.wrap ((a0.depth.getD a1.toNat default) - x3_9_1))))] [(0, .box 51 [.d (slT enc_api_Decl a0.p.Decls), .d (slT enc_sl_sl_api_Need a0.p.Waits), .d (slT enc_api_Func a0.p.Funcs), .d (slT enc_api_Ins a0.code), .own 1, .own 2, .d (.int .i64 a0.at_), .d (.int .i64 a0.err)]), (1, .row 3 1 (a0.depth.map enc_i64)), (2, .row 4 1 (a0.next.map enc_bool)), (104, .box 40 [.d (.int .i64 ((a0.code.getD a1.toNat default).Op)), .d (.int .i64 ((a0.code.getD a1.toNat default).A)), .d (.int .i64 ((a0.code.getD a1.toNat default).B))])] (.one 0 true (.one 1 true (.one 2 true (.one 4 true (.one 7 true (.one 8 true (.fork (.one 3 false (.fork (.one 5 false (.fork (.one 6 false (.one 9 false (.one 10 true (.one 11 true .done)))) (.one 9 false (.one 6 false (.one 10 true (.one 11 true .done)))))) (.one 9 false (.one 5 false (.one 6 false (.one 10 true (.one 11 true .done))))))) (.one 9 false (.one 3 false (.one 5 false (.one 6 false (.one 10 true (.one 11 true .done))))))))))))) [0, 104] [0, 104] rfl (by kernel_rfl) rfl (by kernel_rfl) rfl rfl (fun _ h => h) rfl rfl rfl (fun FK NK wK K => ?_) ?_
    · refine WH.run 6 tt_ok rfl rfl rfl rfl trivial ?_
      refine WH.fork ?_ ?_
      · refine WH.val tt_ok rfl rfl rfl rfl rfl trivial rfl rfl ?_
        refine WH.fork ?_ ?_
        · refine WH.yvs rfl (LJ.Y.idxRel enc_i64 a0.depth a1 tt_ok rfl rfl rfl rfl rfl (nIn_ok g3_5_1)) rfl rfl rfl rfl rfl ?_
          refine WH.fork ?_ ?_
          · refine WH.yvs rfl (LJ.Y.loadRel enc_i64 a0.depth a1 0 rfl rfl (fun _ => rfl) rfl (by kernel_rfl) rfl (by first | exact nIn_ok g3_5_1 | (have := nIn_ok g3_5_1; simpa only [List.length_set, List.length_map] using this))) rfl rfl rfl rfl rfl ?_
            refine WH.call [] rfl (op_Pops_0 _ _ hx3_9_1) op_Pops_f rfl rfl trivial rfl rfl rfl rfl rfl ?_
            refine WH.run 2 tt_ok rfl rfl rfl rfl trivial ?_
            exact WH.nilF rfl (LessW.mk' ⟨AVle.of rfl, AVle.of rfl, AVle.of rfl, AVle.of rfl, trivial⟩ ⟨rfl, rfl, rfl, rfl, trivial⟩)
          · refine WH.call [] rfl (op_Pops_0 _ _ hx3_9_1) op_Pops_f rfl rfl trivial rfl rfl rfl rfl rfl ?_
            refine WH.yvs rfl (LJ.Y.loadRel enc_i64 a0.depth a1 0 rfl rfl (fun _ => rfl) rfl (by kernel_rfl) rfl (by first | exact nIn_ok g3_5_1 | (have := nIn_ok g3_5_1; simpa only [List.length_set, List.length_map] using this))) rfl rfl rfl rfl rfl ?_
            refine WH.run 2 tt_ok rfl rfl rfl rfl trivial ?_
            exact WH.nilF rfl (LessW.mk' ⟨AVle.of rfl, AVle.of rfl, AVle.of rfl, AVle.of rfl, trivial⟩ ⟨rfl, rfl, rfl, rfl, trivial⟩)
        · refine WH.call [] rfl (op_Pops_0 _ _ hx3_9_1) op_Pops_f rfl rfl trivial rfl rfl rfl rfl rfl ?_
          refine WH.yvs rfl (LJ.Y.idxRel enc_i64 a0.depth a1 tt_ok rfl rfl rfl rfl rfl (nIn_ok g3_5_1)) rfl rfl rfl rfl rfl ?_
          refine WH.yvs rfl (LJ.Y.loadRel enc_i64 a0.depth a1 0 rfl rfl (fun _ => rfl) rfl (by kernel_rfl) rfl (by first | exact nIn_ok g3_5_1 | (have := nIn_ok g3_5_1; simpa only [List.length_set, List.length_map] using this))) rfl rfl rfl rfl rfl ?_
          refine WH.run 2 tt_ok rfl rfl rfl rfl trivial ?_
          exact WH.nilF rfl (LessW.mk' ⟨AVle.of rfl, AVle.of rfl, AVle.of rfl, AVle.of rfl, trivial⟩ ⟨rfl, rfl, rfl, rfl, trivial⟩)
      · refine WH.call [] rfl (op_Pops_0 _ _ hx3_9_1) op_Pops_f rfl rfl trivial rfl rfl rfl rfl rfl ?_
        refine WH.val tt_ok rfl rfl rfl rfl rfl trivial rfl rfl ?_
        refine WH.yvs rfl (LJ.Y.idxRel enc_i64 a0.depth a1 tt_ok rfl rfl rfl rfl rfl (nIn_ok g3_5_1)) rfl rfl rfl rfl rfl ?_
        refine WH.yvs rfl (LJ.Y.loadRel enc_i64 a0.depth a1 0 rfl rfl (fun _ => rfl) rfl (by kernel_rfl) rfl (by first | exact nIn_ok g3_5_1 | (have := nIn_ok g3_5_1; simpa only [List.length_set, List.length_map] using this))) rfl rfl rfl rfl rfl ?_
        refine WH.run 2 tt_ok rfl rfl rfl rfl trivial ?_
        exact WH.nilF rfl (LessW.mk' ⟨AVle.of rfl, AVle.of rfl, AVle.of rfl, AVle.of rfl, trivial⟩ ⟨rfl, rfl, rfl, rfl, trivial⟩)
    · refine QT.n ?_
      refine WC.seq ?_
      refine WC.seq ?_
      refine WC.region ?_
      refine WL.run 2 tt_ok sg0 rfl rfl trivial ?_
      refine WL.nil ?_
      refine QT.n ?_
      refine WC.cond rfl (fun h4 => ?_) (fun h4 => ?_)
      · replace H := of_t H h4
        refine WC.seq ?_
        refine WC.region ?_
        refine WL.run 2 tt_ok sg0 rfl rfl trivial ?_
        obtain ⟨x5, hx5, H⟩ := of_bind H
        refine WL.call [1, 2] (depth_walk_wrong_s 0 1 2 rfl _ _ _ hx5) depth_walk_wrong_f rfl rfl ⟨rfl, rfl, rfl, trivial⟩ rfl rfl rfl ?_
        refine WL.nil ?_
        refine QT.n ?_
        refine WC.ret ?_
        refine QT.r ?_
        cases H
        exact Ends.auto rfl rfl rfl ⟨rfl, rfl, rfl, trivial⟩
      replace H := of_f H h4
      refine WC.skip ?_
      refine QT.n ?_
      refine WC.seq ?_
      refine WC.seq ?_
      refine WC.region ?_
      refine WL.run 3 tt_ok sg0 rfl rfl trivial ?_
      obtain ⟨x6, hx6, H⟩ := of_bind H
      refine WL.call [] (op_Pushes_0 _ hx6) op_Pushes_f rfl rfl trivial rfl rfl rfl ?_
      refine WL.run 2 tt_ok sg0 rfl rfl trivial ?_
      refine WL.nil ?_
      refine QT.n ?_
      refine WC.seq ?_
      refine WC.region ?_
      refine WL.run 2 tt_ok sg0 rfl rfl trivial ?_
      refine WL.nil ?_
      refine QT.n ?_
      refine WC.cond rfl (fun h7 => ?_) (fun h7 => ?_)
      · replace H := of_t H h7
        refine WC.seq ?_
        refine WC.region ?_
        refine WL.run 2 tt_ok sg0 rfl rfl trivial ?_
        obtain ⟨x8, hx8, H⟩ := of_bind H
        refine WL.call [1, 2] (depth_walk_wrong_s 0 1 2 rfl _ _ _ hx8) depth_walk_wrong_f rfl rfl ⟨rfl, rfl, rfl, trivial⟩ rfl rfl rfl ?_
        refine WL.nil ?_
        refine QT.n ?_
        refine WC.ret ?_
        refine QT.r ?_
        cases H
        exact Ends.auto rfl rfl rfl ⟨rfl, rfl, rfl, trivial⟩
      replace H := of_f H h7
      refine WC.skip ?_
      refine QT.n ?_
      refine WC.seq ?_
      refine WC.seq ?_
      refine WC.region ?_
      refine WL.run 2 tt_ok sg0 rfl rfl trivial ?_
      obtain ⟨x9, hx9, H⟩ := of_bind H
      refine WL.call [] (op_Goes_0 _ hx9) op_Goes_f rfl rfl trivial rfl rfl rfl ?_
      refine WL.run 1 tt_ok sg0 rfl rfl trivial ?_
      refine WL.split (g := 67) rfl (fun h10 => ?_) (fun h10 => ?_)
      · replace H := of_t H h10
        refine WL.grun 5 3 true 67 tt_ok sg0 rfl rfl rfl rfl trivial ?_
        obtain ⟨x11, hx11, H⟩ := of_bind H
        refine WL.gcall [1, 2] (depth_walk_leads_s 0 1 2 rfl _ _ _ _ hx11) depth_walk_leads_f rfl rfl ⟨rfl, rfl, rfl, trivial⟩ rfl rfl rfl rfl rfl rfl ?_
        refine WL.grun 1 3 true 67 tt_ok sg0 rfl rfl rfl rfl trivial ?_
        refine WL.pickT rfl rfl rfl rfl rfl rfl ?_
        refine WL.nil ?_
        refine QT.n ?_
        refine WC.cond rfl (fun h12 => ?_) (fun h12 => ?_)
        · replace H := of_t H h12
          refine WC.ret ?_
          refine QT.r ?_
          cases H
          exact Ends.auto rfl rfl rfl ⟨rfl, rfl, rfl, trivial⟩
        replace H := of_f H h12
        refine WC.skip ?_
        refine QT.n ?_
        refine WC.seq ?_
        refine WC.region ?_
        refine WL.run 4 tt_ok sg0 rfl rfl trivial ?_
        refine WL.sect 3 3 false tt_ok sg0 rfl rfl (fun _ => trivial) ?_
        refine WL.run 1 tt_ok sg0 rfl rfl ⟨by first | exact id | exact fun h => by rw [h]; rfl | simp_all, trivial⟩ ?_
        refine WL.nil ?_
        refine QT.n ?_
        refine WC.cond rfl (fun h13 => ?_) (fun h13 => ?_)
        · replace H := of_t H h13
          refine WC.region ?_
          refine WL.run 5 tt_ok sg0 rfl rfl trivial ?_
          obtain ⟨x14, hx14, H⟩ := of_bind H
          refine WL.call [1, 2] (depth_walk_leads_s 0 1 2 rfl _ _ _ _ hx14) depth_walk_leads_f rfl rfl ⟨rfl, rfl, rfl, trivial⟩ rfl rfl rfl ?_
          refine WL.nil ?_
          cases H
          exact Ends.auton rfl rfl rfl ⟨rfl, rfl, rfl, trivial⟩
        replace H := of_f H h13
        refine WC.skip ?_
        cases H
        exact Ends.auton rfl rfl rfl ⟨rfl, rfl, rfl, trivial⟩
      · replace H := of_f H h10
        refine WL.gskips 7 3 true 67 rfl rfl rfl rfl ?_
        refine WL.pickF rfl rfl rfl rfl rfl rfl ?_
        refine WL.nil ?_
        refine QT.n ?_
        refine WC.cond rfl (fun h => absurd h (by decide)) (fun h => ?_)
        refine WC.skip ?_
        refine QT.n ?_
        refine WC.seq ?_
        refine WC.region ?_
        refine WL.run 4 tt_ok sg0 rfl rfl trivial ?_
        refine WL.sect 3 3 false tt_ok sg0 rfl rfl (fun _ => trivial) ?_
        refine WL.run 1 tt_ok sg0 rfl rfl ⟨by first | exact id | exact fun h => by rw [h]; rfl | simp_all, trivial⟩ ?_
        refine WL.nil ?_
        refine QT.n ?_
        refine WC.cond rfl (fun h15 => ?_) (fun h15 => ?_)
        · replace H := of_t H h15
          refine WC.region ?_
          refine WL.run 5 tt_ok sg0 rfl rfl trivial ?_
          obtain ⟨x16, hx16, H⟩ := of_bind H
          refine WL.call [1, 2] (depth_walk_leads_s 0 1 2 rfl _ _ _ _ hx16) depth_walk_leads_f rfl rfl ⟨rfl, rfl, rfl, trivial⟩ rfl rfl rfl ?_
          refine WL.nil ?_
          cases H
          exact Ends.auton rfl rfl rfl ⟨rfl, rfl, rfl, trivial⟩
        replace H := of_f H h15
        refine WC.skip ?_
        cases H
        exact Ends.auton rfl rfl rfl ⟨rfl, rfl, rfl, trivial⟩
  replace H := of_f H h2
  refine WC.skip ?_
  refine QT.n ?_
  refine WC.seq ?_
  obtain ⟨g3_5_1, H⟩ := of_need H
  obtain ⟨x3_9_1, hx3_9_1, H⟩ := of_bind H
  refine WC.heldF [(0, .ptr 0 0), (1, .d (.int .i64 a1)), (4, .ptr 104 0), (6, .d (.int .i64 (IntKind.i64.wrap ((a0.depth.getD a1.toNat default) - x3_9_1))))] [(0, .box 51 [.d (slT enc_api_Decl a0.p.Decls), .d (slT enc_sl_sl_api_Need a0.p.Waits), .d (slT enc_api_Func a0.p.Funcs), .d (slT enc_api_Ins a0.code), .own 1, .own 2, .d (.int .i64 a0.at_), .d (.int .i64 a0.err)]), (1, .row 3 1 (a0.depth.map enc_i64)), (2, .row 4 1 (a0.next.map enc_bool)), (104, .box 40 [.d (.int .i64 ((a0.code.getD a1.toNat default).Op)), .d (.int .i64 ((a0.code.getD a1.toNat default).A)), .d (.int .i64 ((a0.code.getD a1.toNat default).B))])] (.one 0 true (.one 1 true (.one 2 true (.one 4 true (.one 7 true (.one 8 true (.fork (.one 3 false (.fork (.one 5 false (.fork (.one 6 false (.one 9 false (.one 10 true (.one 11 true .done)))) (.one 9 false (.one 6 false (.one 10 true (.one 11 true .done)))))) (.one 9 false (.one 5 false (.one 6 false (.one 10 true (.one 11 true .done))))))) (.one 9 false (.one 3 false (.one 5 false (.one 6 false (.one 10 true (.one 11 true .done))))))))))))) [0, 104] [0, 104] rfl (by kernel_rfl) rfl (by kernel_rfl) rfl rfl (fun _ h => h) rfl rfl rfl (fun FK NK wK K => ?_) ?_
  · refine WH.run 6 tt_ok rfl rfl rfl rfl trivial ?_
    refine WH.fork ?_ ?_
    · refine WH.val tt_ok rfl rfl rfl rfl rfl trivial rfl rfl ?_
      refine WH.fork ?_ ?_
      · refine WH.yvs rfl (LJ.Y.idxRel enc_i64 a0.depth a1 tt_ok rfl rfl rfl rfl rfl (nIn_ok g3_5_1)) rfl rfl rfl rfl rfl ?_
        refine WH.fork ?_ ?_
        · refine WH.yvs rfl (LJ.Y.loadRel enc_i64 a0.depth a1 0 rfl rfl (fun _ => rfl) rfl (by kernel_rfl) rfl (by first | exact nIn_ok g3_5_1 | (have := nIn_ok g3_5_1; simpa only [List.length_set, List.length_map] using this))) rfl rfl rfl rfl rfl ?_
          refine WH.call [] rfl (op_Pops_0 _ _ hx3_9_1) op_Pops_f rfl rfl trivial rfl rfl rfl rfl rfl ?_
          refine WH.run 2 tt_ok rfl rfl rfl rfl trivial ?_
          exact WH.nilF rfl (LessW.mk' ⟨AVle.of rfl, AVle.of rfl, AVle.of rfl, AVle.of rfl, trivial⟩ ⟨rfl, rfl, rfl, rfl, trivial⟩)
        · refine WH.call [] rfl (op_Pops_0 _ _ hx3_9_1) op_Pops_f rfl rfl trivial rfl rfl rfl rfl rfl ?_
          refine WH.yvs rfl (LJ.Y.loadRel enc_i64 a0.depth a1 0 rfl rfl (fun _ => rfl) rfl (by kernel_rfl) rfl (by first | exact nIn_ok g3_5_1 | (have := nIn_ok g3_5_1; simpa only [List.length_set, List.length_map] using this))) rfl rfl rfl rfl rfl ?_
          refine WH.run 2 tt_ok rfl rfl rfl rfl trivial ?_
          exact WH.nilF rfl (LessW.mk' ⟨AVle.of rfl, AVle.of rfl, AVle.of rfl, AVle.of rfl, trivial⟩ ⟨rfl, rfl, rfl, rfl, trivial⟩)
      · refine WH.call [] rfl (op_Pops_0 _ _ hx3_9_1) op_Pops_f rfl rfl trivial rfl rfl rfl rfl rfl ?_
        refine WH.yvs rfl (LJ.Y.idxRel enc_i64 a0.depth a1 tt_ok rfl rfl rfl rfl rfl (nIn_ok g3_5_1)) rfl rfl rfl rfl rfl ?_
        refine WH.yvs rfl (LJ.Y.loadRel enc_i64 a0.depth a1 0 rfl rfl (fun _ => rfl) rfl (by kernel_rfl) rfl (by first | exact nIn_ok g3_5_1 | (have := nIn_ok g3_5_1; simpa only [List.length_set, List.length_map] using this))) rfl rfl rfl rfl rfl ?_
        refine WH.run 2 tt_ok rfl rfl rfl rfl trivial ?_
        exact WH.nilF rfl (LessW.mk' ⟨AVle.of rfl, AVle.of rfl, AVle.of rfl, AVle.of rfl, trivial⟩ ⟨rfl, rfl, rfl, rfl, trivial⟩)
    · refine WH.call [] rfl (op_Pops_0 _ _ hx3_9_1) op_Pops_f rfl rfl trivial rfl rfl rfl rfl rfl ?_
      refine WH.val tt_ok rfl rfl rfl rfl rfl trivial rfl rfl ?_
      refine WH.yvs rfl (LJ.Y.idxRel enc_i64 a0.depth a1 tt_ok rfl rfl rfl rfl rfl (nIn_ok g3_5_1)) rfl rfl rfl rfl rfl ?_
      refine WH.yvs rfl (LJ.Y.loadRel enc_i64 a0.depth a1 0 rfl rfl (fun _ => rfl) rfl (by kernel_rfl) rfl (by first | exact nIn_ok g3_5_1 | (have := nIn_ok g3_5_1; simpa only [List.length_set, List.length_map] using this))) rfl rfl rfl rfl rfl ?_
      refine WH.run 2 tt_ok rfl rfl rfl rfl trivial ?_
      exact WH.nilF rfl (LessW.mk' ⟨AVle.of rfl, AVle.of rfl, AVle.of rfl, AVle.of rfl, trivial⟩ ⟨rfl, rfl, rfl, rfl, trivial⟩)
  · refine QT.n ?_
    refine WC.seq ?_
    refine WC.seq ?_
    refine WC.region ?_
    refine WL.run 2 tt_ok sg0 rfl rfl trivial ?_
    refine WL.nil ?_
    refine QT.n ?_
    refine WC.cond rfl (fun h17 => ?_) (fun h17 => ?_)
    · replace H := of_t H h17
      refine WC.seq ?_
      refine WC.region ?_
      refine WL.run 2 tt_ok sg0 rfl rfl trivial ?_
      obtain ⟨x18, hx18, H⟩ := of_bind H
      refine WL.call [1, 2] (depth_walk_wrong_s 0 1 2 rfl _ _ _ hx18) depth_walk_wrong_f rfl rfl ⟨rfl, rfl, rfl, trivial⟩ rfl rfl rfl ?_
      refine WL.nil ?_
      refine QT.n ?_
      refine WC.ret ?_
      refine QT.r ?_
      cases H
      exact Ends.auto rfl rfl rfl ⟨rfl, rfl, rfl, trivial⟩
    replace H := of_f H h17
    refine WC.skip ?_
    refine QT.n ?_
    refine WC.seq ?_
    refine WC.seq ?_
    refine WC.region ?_
    refine WL.run 3 tt_ok sg0 rfl rfl trivial ?_
    obtain ⟨x19, hx19, H⟩ := of_bind H
    refine WL.call [] (op_Pushes_0 _ hx19) op_Pushes_f rfl rfl trivial rfl rfl rfl ?_
    refine WL.run 2 tt_ok sg0 rfl rfl trivial ?_
    refine WL.nil ?_
    refine QT.n ?_
    refine WC.seq ?_
    refine WC.region ?_
    refine WL.run 2 tt_ok sg0 rfl rfl trivial ?_
    refine WL.nil ?_
    refine QT.n ?_
    refine WC.cond rfl (fun h20 => ?_) (fun h20 => ?_)
    · replace H := of_t H h20
      refine WC.seq ?_
      refine WC.region ?_
      refine WL.run 2 tt_ok sg0 rfl rfl trivial ?_
      obtain ⟨x21, hx21, H⟩ := of_bind H
      refine WL.call [1, 2] (depth_walk_wrong_s 0 1 2 rfl _ _ _ hx21) depth_walk_wrong_f rfl rfl ⟨rfl, rfl, rfl, trivial⟩ rfl rfl rfl ?_
      refine WL.nil ?_
      refine QT.n ?_
      refine WC.ret ?_
      refine QT.r ?_
      cases H
      exact Ends.auto rfl rfl rfl ⟨rfl, rfl, rfl, trivial⟩
    replace H := of_f H h20
    refine WC.skip ?_
    refine QT.n ?_
    refine WC.seq ?_
    refine WC.seq ?_
    refine WC.region ?_
    refine WL.run 2 tt_ok sg0 rfl rfl trivial ?_
    obtain ⟨x22, hx22, H⟩ := of_bind H
    refine WL.call [] (op_Goes_0 _ hx22) op_Goes_f rfl rfl trivial rfl rfl rfl ?_
    refine WL.run 1 tt_ok sg0 rfl rfl trivial ?_
    refine WL.split (g := 67) rfl (fun h23 => ?_) (fun h23 => ?_)
    · replace H := of_t H h23
      refine WL.grun 5 3 true 67 tt_ok sg0 rfl rfl rfl rfl trivial ?_
      obtain ⟨x24, hx24, H⟩ := of_bind H
      refine WL.gcall [1, 2] (depth_walk_leads_s 0 1 2 rfl _ _ _ _ hx24) depth_walk_leads_f rfl rfl ⟨rfl, rfl, rfl, trivial⟩ rfl rfl rfl rfl rfl rfl ?_
      refine WL.grun 1 3 true 67 tt_ok sg0 rfl rfl rfl rfl trivial ?_
      refine WL.pickT rfl rfl rfl rfl rfl rfl ?_
      refine WL.nil ?_
      refine QT.n ?_
      refine WC.cond rfl (fun h25 => ?_) (fun h25 => ?_)
      · replace H := of_t H h25
        refine WC.ret ?_
        refine QT.r ?_
        cases H
        exact Ends.auto rfl rfl rfl ⟨rfl, rfl, rfl, trivial⟩
      replace H := of_f H h25
      refine WC.skip ?_
      refine QT.n ?_
      refine WC.seq ?_
      refine WC.region ?_
      refine WL.run 4 tt_ok sg0 rfl rfl trivial ?_
      refine WL.sect 3 3 false tt_ok sg0 rfl rfl (fun _ => trivial) ?_
      refine WL.run 1 tt_ok sg0 rfl rfl ⟨by first | exact id | exact fun h => by rw [h]; rfl | simp_all, trivial⟩ ?_
      refine WL.nil ?_
      refine QT.n ?_
      refine WC.cond rfl (fun h26 => ?_) (fun h26 => ?_)
      · replace H := of_t H h26
        refine WC.region ?_
        refine WL.run 5 tt_ok sg0 rfl rfl trivial ?_
        obtain ⟨x27, hx27, H⟩ := of_bind H
        refine WL.call [1, 2] (depth_walk_leads_s 0 1 2 rfl _ _ _ _ hx27) depth_walk_leads_f rfl rfl ⟨rfl, rfl, rfl, trivial⟩ rfl rfl rfl ?_
        refine WL.nil ?_
        cases H
        exact Ends.auton rfl rfl rfl ⟨rfl, rfl, rfl, trivial⟩
      replace H := of_f H h26
      refine WC.skip ?_
      cases H
      exact Ends.auton rfl rfl rfl ⟨rfl, rfl, rfl, trivial⟩
    · replace H := of_f H h23
      refine WL.gskips 7 3 true 67 rfl rfl rfl rfl ?_
      refine WL.pickF rfl rfl rfl rfl rfl rfl ?_
      refine WL.nil ?_
      refine QT.n ?_
      refine WC.cond rfl (fun h => absurd h (by decide)) (fun h => ?_)
      refine WC.skip ?_
      refine QT.n ?_
      refine WC.seq ?_
      refine WC.region ?_
      refine WL.run 4 tt_ok sg0 rfl rfl trivial ?_
      refine WL.sect 3 3 false tt_ok sg0 rfl rfl (fun _ => trivial) ?_
      refine WL.run 1 tt_ok sg0 rfl rfl ⟨by first | exact id | exact fun h => by rw [h]; rfl | simp_all, trivial⟩ ?_
      refine WL.nil ?_
      refine QT.n ?_
      refine WC.cond rfl (fun h28 => ?_) (fun h28 => ?_)
      · replace H := of_t H h28
        refine WC.region ?_
        refine WL.run 5 tt_ok sg0 rfl rfl trivial ?_
        obtain ⟨x29, hx29, H⟩ := of_bind H
        refine WL.call [1, 2] (depth_walk_leads_s 0 1 2 rfl _ _ _ _ hx29) depth_walk_leads_f rfl rfl ⟨rfl, rfl, rfl, trivial⟩ rfl rfl rfl ?_
        refine WL.nil ?_
        cases H
        exact Ends.auton rfl rfl rfl ⟨rfl, rfl, rfl, trivial⟩
      replace H := of_f H h28
      refine WC.skip ?_
      cases H
      exact Ends.auton rfl rfl rfl ⟨rfl, rfl, rfl, trivial⟩
theorem depth_walk_look_s (n0 n1 n2 : Nat) (hn : nodupB [n0, n1, n2] = true) (a0 : T_depth_walk) (a1 : Int) {r : T_depth_walk} (H : depth_walk_look a0 a1 = some r) : LJ.Spec Try.prog 16 [.ptr n0 0, .d (.int .i64 a1)] [(n0, .box 51 [.d (slT enc_api_Decl a0.p.Decls), .d (slT enc_sl_sl_api_Need a0.p.Waits), .d (slT enc_api_Func a0.p.Funcs), .d (slT enc_api_Ins a0.code), .own n1, .own n2, .d (.int .i64 a0.at_), .d (.int .i64 a0.err)]), (n1, .row 3 1 (a0.depth.map enc_i64)), (n2, .row 4 1 (a0.next.map enc_bool))] (.tup []) [(n1, .row 3 1 (r.depth.map enc_i64)), (n2, .row 4 1 (r.next.map enc_bool)), (n0, .box 51 [.d (slT enc_api_Decl r.p.Decls), .d (slT enc_sl_sl_api_Need r.p.Waits), .d (slT enc_api_Func r.p.Funcs), .d (slT enc_api_Ins r.code), .own n1, .own n2, .d (.int .i64 r.at_), .d (.int .i64 r.err)])] :=
  Spec.names [n0, n1, n2] hn rfl rfl (depth_walk_look_0 a0 a1 H)
theorem depth_walk_look_f : hasFunc Try.prog 16 Try.f16 := ⟨Try.func16, rfl, by kernel_rfl⟩

/-! ### logjam/depth.Of -/
theorem depth_Of_0 (a0 : T_api_Program) (a1 : Int) {r : (List Int) × Int × Int} (H : depth_Of a0 a1 = some r) : LJ.Spec Try.prog 7 [.d (.agg [slT enc_api_Decl a0.Decls, slT enc_sl_sl_api_Need a0.Waits, slT enc_api_Func a0.Funcs]), .d (.int .i64 a1)] [] (.tup [.d (slT enc_i64 r.1), .d (.int .i64 r.2.1), .d (.int .i64 r.2.2)]) [] := by
  refine LJ.Spec.code Try.func7 rfl 101 rfl rfl [] rfl fun w0 F0 S0 B0 => ?_
  unfold depth_Of at H
  refine WC.seq ?_
  refine WC.region ?_
  refine WL.eff 102 tt_ok et_ok eg0 rfl rfl rfl trivial ?_
  refine WL.run 3 tt_ok sg0 rfl rfl trivial ?_
  refine WL.nil ?_
  refine QT.n ?_
  refine WC.seq ?_
  refine WC.seq ?_
  refine WC.region ?_
  refine WL.run 3 tt_ok sg0 rfl rfl trivial ?_
  refine WL.sect 5 2 false tt_ok sg0 rfl rfl (fun _ => trivial) ?_
  refine WL.run 1 tt_ok sg0 rfl rfl ⟨by first | exact id | exact fun h => by rw [h]; rfl | simp_all, trivial⟩ ?_
  refine WL.nil ?_
  refine QT.n ?_
  refine WC.cond rfl (fun h1 => ?_) (fun h1 => ?_)
  · replace H := of_t H h1
    refine WC.seq ?_
    refine WC.region ?_
    refine WL.run 3 tt_ok sg0 rfl rfl trivial ?_
    refine WL.nil ?_
    refine QT.n ?_
    refine WC.nilT 4 enc_i64 rfl ?_
    refine WC.ret ?_
    refine QT.r ?_
    cases H
    exact Ends.auto rfl rfl rfl trivial
  replace H := of_f H h1
  refine WC.skip ?_
  refine QT.n ?_
  refine WC.seq ?_
  refine WC.heldP (.one 0 true (.one 1 true (.one 2 true (.one 3 true (.one 4 true (.one 5 true (.one 6 true (.one 7 true (.one 8 false (.one 9 true .done)))))))))) [102] [102] rfl (by kernel_rfl) rfl (by kernel_rfl) rfl rfl (fun _ h => h) rfl rfl rfl (fun _ _ _ h => h) fun FK NK wK K => ?_
  obtain ⟨g2, H⟩ := of_need H
  refine WH.run 8 tt_ok rfl rfl rfl rfl ⟨⟨(nIn_ok g2).1, (nIn_ok g2).2, rfl⟩, trivial⟩ ?_
  refine WH.eff 127 tt_ok et_ok rfl rfl rfl rfl trivial rfl rfl ?_
  refine WH.mv rfl rfl rfl rfl rfl rfl rfl rfl rfl ?_
  refine WH.nil rfl ?_
  refine QT.n ?_
  refine WC.seq ?_
  refine WC.region ?_
  refine WL.run 6 tt_ok sg0 rfl rfl trivial ?_
  obtain ⟨g3, H⟩ := of_need H
  refine WL.makeT (r := 134) enc_i64 (0 : Int) (((a0.Funcs.getD a1.toNat default).Code).length : Int) tt_ok et_ok rfl rfl rfl rfl rfl rfl rfl (nMk_ok g3) rfl rfl rfl rfl ?_
  refine WL.run 2 tt_ok sg0 rfl rfl trivial ?_
  refine WL.eff 0 tt_ok et_ok eg0 rfl rfl rfl trivial ?_
  refine WL.nil ?_
  refine QT.n ?_
  refine WC.seq ?_
  refine WC.seq ?_
  refine WC.region ?_
  refine WL.run 6 tt_ok sg0 rfl rfl trivial ?_
  refine WL.nil ?_
  refine QT.n ?_
  refine WC.block ?_
  refine WC.loop (ι := {x : Nat × (Int × (List Int)) // depth_Of_l5 a0 a1 x.1 x.2 = some r}) (fun x => [(7, .ptr 127 0), (41, .d (.int .i64 (((List.replicate (((a0.Funcs.getD a1.toNat default).Code).length : Int).toNat (0 : Int)).map enc_i64).length : Int))), (42, .d (.int .i64 x.1.2.1))]) (fun x => [(127, .box 51 [.d (slT enc_api_Decl a0.Decls), .d (slT enc_sl_sl_api_Need a0.Waits), .d (slT enc_api_Func a0.Funcs), .d (slT enc_api_Ins ((a0.Funcs.getD a1.toNat default).Code)), .own 134, .d (.nils), .d (.int .i64 0), .d (.int .i64 0)]), (134, .row 3 1 (x.1.2.2.map enc_i64))]) (fun x => x.1.1) ⟨(fuel, (0, List.replicate (((a0.Funcs.getD a1.toNat default).Code).length : Int).toNat (0 : Int))), H⟩ (Less.mk' ⟨rfl, rfl, rfl, trivial⟩ ⟨rfl, rfl, trivial⟩) fun x => ?_
  obtain ⟨⟨k5, s4⟩, H⟩ := x
  rcases k5 with _ | k5
  · exact of_none H
  rw [depth_Of_l5] at H
  refine WC.seq ?_
  refine WC.region ?_
  refine WL.run 1 tt_ok sg0 rfl rfl trivial ?_
  refine WL.nil ?_
  refine QT.n ?_
  refine WC.seq ?_
  refine WC.cond rfl (fun h6 => ?_) (fun h6 => ?_)
  · replace H := of_t H h6
    refine WC.skip ?_
    refine QT.n ?_
    refine WC.seq ?_
    refine WC.block ?_
    refine WC.seq ?_
    refine WC.region ?_
    refine WL.run 2 tt_ok sg0 rfl rfl trivial ?_
    refine WL.nil ?_
    refine QT.n ?_
    refine WC.region ?_
    refine WL.run 5 tt_ok sg0 rfl rfl trivial ?_
    obtain ⟨g7, H⟩ := of_need H
    refine WL.yv (LJ.Y.idxRel enc_i64 s4.2 s4.1 tt_ok rfl rfl rfl rfl rfl (nIn_ok g7)) rfl rfl rfl ?_
    refine WL.storeRel enc_i64 s4.2 s4.1 0 (-1) (.int .i64 (-1)) rfl rfl rfl rfl (fun _ => rfl) rfl (by kernel_rfl) rfl rfl (by first | exact nIn_ok g7 | (have := nIn_ok g7; simpa only [List.length_set, List.length_map] using this)) rfl rfl rfl rfl ?_
    refine WL.nil ?_
    refine QB.n (QT.n ?_)
    refine WC.region ?_
    refine WL.run 2 tt_ok sg0 rfl rfl trivial ?_
    refine WL.nil ?_
    refine QT.n ?_
    exact ⟨⟨(k5, (IntKind.i64.wrap (s4.1 + 1), s4.2.set s4.1.toNat (-1))), H⟩, Nat.lt_succ_self _, Less.mk' ⟨rfl, rfl, rfl, trivial⟩ ⟨rfl, rfl, trivial⟩⟩
  replace H := of_f H h6
  refine WC.exit ?_
  refine QT.x (QT.x (QB.hit (QT.n ?_)))
  refine WC.seq ?_
  refine WC.seq ?_
  refine WC.region ?_
  refine WL.run 6 tt_ok sg0 rfl rfl trivial ?_
  refine WL.nil ?_
  refine QT.n ?_
  refine WC.cond rfl (fun h8 => ?_) (fun h8 => ?_)
  · replace H := of_t H h8
    refine WC.seq ?_
    refine WC.region ?_
    refine WL.run 3 tt_ok sg0 rfl rfl trivial ?_
    refine WL.nil ?_
    refine QT.n ?_
    refine WC.nilT 4 enc_i64 rfl ?_
    refine WC.ret ?_
    refine QT.r ?_
    cases H
    exact Ends.auto rfl rfl rfl trivial
  replace H := of_f H h8
  refine WC.skip ?_
  refine QT.n ?_
  refine WC.seq ?_
  refine WC.region ?_
  refine WL.run 6 tt_ok sg0 rfl rfl trivial ?_
  obtain ⟨g9, H⟩ := of_need H
  refine WL.makeT (r := 164) enc_bool (false : Bool) (((a0.Funcs.getD a1.toNat default).Code).length : Int) tt_ok et_ok rfl rfl rfl rfl rfl rfl rfl (nMk_ok g9) rfl rfl rfl rfl ?_
  refine WL.run 2 tt_ok sg0 rfl rfl trivial ?_
  refine WL.eff 0 tt_ok et_ok eg0 rfl rfl rfl trivial ?_
  refine WL.nil ?_
  refine QT.n ?_
  refine WC.seq ?_
  refine WC.region ?_
  refine WL.run 1 tt_ok sg0 rfl rfl trivial ?_
  obtain ⟨x10, hx10, H⟩ := of_bind H
  refine WL.call [134, 164] (depth_walk_leads_s 127 134 164 rfl _ _ _ _ hx10) depth_walk_leads_f rfl rfl ⟨rfl, rfl, rfl, trivial⟩ rfl rfl rfl ?_
  refine WL.nil ?_
  refine QT.n ?_
  refine WC.seq ?_
  refine WC.seq ?_
  refine WC.region ?_
  refine WL.run 1 tt_ok sg0 rfl rfl trivial ?_
  obtain ⟨x11, hx11, H⟩ := of_bind H
  refine WL.call [134, 164] (depth_walk_least_s 127 134 164 rfl _ hx11) depth_walk_least_f rfl rfl ⟨rfl, rfl, rfl, trivial⟩ rfl rfl rfl ?_
  refine WL.run 1 tt_ok sg0 rfl rfl trivial ?_
  refine WL.nil ?_
  refine QT.n ?_
  refine WC.block ?_
  refine WC.loop (ι := {x : Nat × (Int × (List T_api_Decl) × (List (List (List T_api_Need))) × (List T_api_Func) × (List T_api_Ins) × Int × Int × (List Int) × (List Bool)) // depth_Of_l13 x.1 x.2 = some r}) (fun x => [(7, .ptr 127 0), (9, .d (.int .i64 x.1.2.1))]) (fun x => [(127, .box 51 [.d (slT enc_api_Decl x.1.2.2.1), .d (slT enc_sl_sl_api_Need x.1.2.2.2.1), .d (slT enc_api_Func x.1.2.2.2.2.1), .d (slT enc_api_Ins x.1.2.2.2.2.2.1), .own 134, .own 164, .d (.int .i64 x.1.2.2.2.2.2.2.1), .d (.int .i64 x.1.2.2.2.2.2.2.2.1)]), (134, .row 3 1 (x.1.2.2.2.2.2.2.2.2.1.map enc_i64)), (164, .row 4 1 (x.1.2.2.2.2.2.2.2.2.2.map enc_bool))]) (fun x => x.1.1) ⟨(fuel, (x11, x10.2.p.Decls, x10.2.p.Waits, x10.2.p.Funcs, x10.2.code, x10.2.at_, x10.2.err, x10.2.depth, x10.2.next)), H⟩ (Less.mk' ⟨rfl, rfl, trivial⟩ ⟨rfl, rfl, rfl, trivial⟩) fun x => ?_
  obtain ⟨⟨k13, s12⟩, H⟩ := x
  rcases k13 with _ | k13
  · exact of_none H
  rw [depth_Of_l13] at H
  refine WC.seq ?_
  refine WC.seq ?_
  refine WC.region ?_
  refine WL.run 2 tt_ok sg0 rfl rfl trivial ?_
  refine WL.nil ?_
  refine QT.n ?_
  refine WC.cond rfl (fun h14 => ?_) (fun h14 => ?_)
  · replace H := of_t H h14
    refine WC.skip ?_
    refine QT.n ?_
    refine WC.seq ?_
    refine WC.block ?_
    refine WC.seq ?_
    refine WC.region ?_
    refine WL.run 5 tt_ok sg0 rfl rfl trivial ?_
    obtain ⟨g15, H⟩ := of_need H
    refine WL.yv (LJ.Y.idxRel enc_bool s12.2.2.2.2.2.2.2.2 s12.1 tt_ok rfl rfl rfl rfl rfl (nIn_ok g15)) rfl rfl rfl ?_
    refine WL.storeRel enc_bool s12.2.2.2.2.2.2.2.2 s12.1 0 false (.bool false) rfl rfl rfl rfl (fun _ => rfl) rfl (by kernel_rfl) rfl rfl (by first | exact nIn_ok g15 | (have := nIn_ok g15; simpa only [List.length_set, List.length_map] using this)) rfl rfl rfl rfl ?_
    refine WL.nil ?_
    refine QT.n ?_
    refine WC.region ?_
    refine WL.run 2 tt_ok sg0 rfl rfl trivial ?_
    obtain ⟨x16, hx16, H⟩ := of_bind H
    refine WL.call [134, 164] (depth_walk_look_s 127 134 164 rfl _ _ hx16) depth_walk_look_f rfl rfl ⟨rfl, rfl, rfl, trivial⟩ rfl rfl rfl ?_
    refine WL.nil ?_
    refine QB.n (QT.n ?_)
    refine WC.region ?_
    refine WL.run 1 tt_ok sg0 rfl rfl trivial ?_
    obtain ⟨x17, hx17, H⟩ := of_bind H
    refine WL.call [134, 164] (depth_walk_least_s 127 134 164 rfl _ hx17) depth_walk_least_f rfl rfl ⟨rfl, rfl, rfl, trivial⟩ rfl rfl rfl ?_
    refine WL.run 1 tt_ok sg0 rfl rfl trivial ?_
    refine WL.nil ?_
    refine QT.n ?_
    exact ⟨⟨(k13, (x17, x16.p.Decls, x16.p.Waits, x16.p.Funcs, x16.code, x16.at_, x16.err, x16.depth, x16.next)), H⟩, Nat.lt_succ_self _, Less.mk' ⟨rfl, rfl, trivial⟩ ⟨rfl, rfl, rfl, trivial⟩⟩
  replace H := of_f H h14
  refine WC.exit ?_
  refine QT.x (QT.x (QB.hit (QT.n ?_)))
  refine WC.seq ?_
  refine WC.seq ?_
  refine WC.region ?_
  refine WL.run 5 tt_ok sg0 rfl rfl trivial ?_
  refine WL.nil ?_
  refine QT.n ?_
  refine WC.cond rfl (fun h18 => ?_) (fun h18 => ?_)
  · replace H := of_t H h18
    refine WC.seq ?_
    refine WC.heldP (.one 0 true (.one 1 true (.one 2 true (.one 3 true (.one 4 true (.one 5 true (.one 6 true (.one 7 true (.one 8 true (.one 9 true (.one 10 true .done))))))))))) [127] [127] rfl (by kernel_rfl) rfl (by kernel_rfl) rfl rfl (fun _ h => h) rfl rfl rfl (fun _ _ _ h => h) fun FK NK wK K => ?_
    refine WH.run 11 tt_ok rfl rfl rfl rfl trivial ?_
    refine WH.nil rfl ?_
    refine QT.n ?_
    refine WC.nilT 4 enc_i64 rfl ?_
    refine WC.ret ?_
    refine QT.r ?_
    cases H
    exact Ends.auto rfl rfl rfl trivial
  replace H := of_f H h18
  refine WC.skip ?_
  refine QT.n ?_
  refine WC.seq ?_
  refine WC.region ?_
  refine WL.run 7 tt_ok sg0 rfl rfl trivial ?_
  refine WL.nil ?_
  refine QT.n ?_
  refine WC.freezeT 134 enc_i64 s12.2.2.2.2.2.2.2.1 rfl rfl rfl rfl ?_
  refine WC.ret ?_
  cases H
  exact Ends.auto rfl rfl rfl trivial
theorem depth_Of_f : hasFunc Try.prog 7 Try.f7 := ⟨Try.func7, rfl, by kernel_rfl⟩

/-! ### logjam/depth.Most -/
theorem depth_Most_0 (a0 : List Int) {r : Int} (H : depth_Most a0 = some r) : LJ.Spec Try.prog 9 [.d (slT enc_i64 a0)] [] (.d (.int .i64 r)) [] := by
  refine LJ.Spec.code Try.func9 rfl 17 rfl rfl [] rfl fun w0 F0 S0 B0 => ?_
  unfold depth_Most at H
  refine WC.seq ?_
  refine WC.region ?_
  refine WL.run 1 tt_ok sg0 rfl rfl trivial ?_
  refine WL.nil ?_
  refine QT.n ?_
  refine WC.seq ?_
  refine WC.region ?_
  refine WL.run 1 tt_ok sg0 rfl rfl trivial ?_
  refine WL.nil ?_
  refine QT.n ?_
  refine WC.seq ?_
  refine WC.seq ?_
  refine WC.region ?_
  refine WL.run 3 tt_ok sg0 rfl rfl trivial ?_
  refine WL.nil ?_
  refine QT.n ?_
  refine WC.block ?_
  refine WC.loop (ι := {x : Nat × (Int × Int) // depth_Most_l2 a0 x.1 x.2 = some r}) (fun x => [(3, .d (.int .i64 x.1.2.1)), (6, .d (slT enc_i64 a0)), (7, .d (.int .i64 (a0.length : Int))), (8, .d (.int .i64 x.1.2.2))]) (fun x => []) (fun x => x.1.1) ⟨(fuel, (0, 0)), H⟩ (Less.mk' ⟨rfl, rfl, rfl, rfl, trivial⟩ trivial) fun x => ?_
  obtain ⟨⟨k2, s1⟩, H⟩ := x
  rcases k2 with _ | k2
  · exact of_none H
  rw [depth_Most_l2] at H
  refine WC.seq ?_
  refine WC.region ?_
  refine WL.run 1 tt_ok sg0 rfl rfl trivial ?_
  refine WL.nil ?_
  refine QT.n ?_
  refine WC.seq ?_
  refine WC.cond rfl (fun h3 => ?_) (fun h3 => ?_)
  · replace H := of_t H h3
    refine WC.skip ?_
    refine QT.n ?_
    refine WC.seq ?_
    refine WC.block ?_
    refine WC.seq ?_
    refine WC.region ?_
    obtain ⟨g4, H⟩ := of_need H
    refine WL.run 3 tt_ok sg0 rfl rfl ⟨⟨(nIn_ok g4).1, (nIn_ok g4).2, rfl⟩, trivial⟩ ?_
    refine WL.nil ?_
    refine QT.n ?_
    refine WC.region ?_
    refine WL.run 2 tt_ok sg0 rfl rfl trivial ?_
    refine WL.yv (LJ.Y.max rfl rfl rfl) rfl rfl rfl ?_
    refine WL.run 1 tt_ok sg0 rfl rfl trivial ?_
    refine WL.nil ?_
    refine QB.n (QT.n ?_)
    refine WC.region ?_
    refine WL.run 2 tt_ok sg0 rfl rfl trivial ?_
    refine WL.nil ?_
    refine QT.n ?_
    exact ⟨⟨(k2, (iMax s1.1 (a0.getD s1.2.toNat default), IntKind.i64.wrap (s1.2 + 1))), H⟩, Nat.lt_succ_self _, Less.mk' ⟨rfl, rfl, rfl, rfl, trivial⟩ trivial⟩
  replace H := of_f H h3
  refine WC.exit ?_
  refine QT.x (QT.x (QB.hit (QT.n ?_)))
  refine WC.seq ?_
  refine WC.region ?_
  refine WL.run 2 tt_ok sg0 rfl rfl trivial ?_
  refine WL.nil ?_
  refine QT.n ?_
  refine WC.ret ?_
  cases H
  exact Ends.auto rfl rfl rfl trivial
theorem depth_Most_f : hasFunc Try.prog 9 Try.f9 := ⟨Try.func9, rfl, by kernel_rfl⟩

/-! ### logjam/logjamlaw11.lives -/
theorem law11_lives_0  {r : Bool} (H : law11_lives = some r) : LJ.Spec Try.prog 6 [] [] (.d (.bool r)) [] := by
  refine LJ.Spec.code Try.func6 rfl 63 rfl rfl [] rfl fun w0 F0 S0 B0 => ?_
  unfold law11_lives at H
  refine WC.seq ?_
  refine WC.region ?_
  refine WL.run 1 tt_ok sg0 rfl rfl trivial ?_
  refine WL.nil ?_
  refine QT.n ?_
  refine WC.seq ?_
  refine WC.region ?_
  refine WL.run 4 tt_ok sg0 rfl rfl trivial ?_
  refine WL.eff 112 tt_ok et_ok eg0 rfl rfl rfl trivial ?_
  refine WL.freezeT 112 enc_api_Ins ([(⟨0, 0, 0⟩ : T_api_Ins), (⟨0, 0, 0⟩ : T_api_Ins), (⟨3, 0, 0⟩ : T_api_Ins), (⟨21, 0, 0⟩ : T_api_Ins)] : List T_api_Ins) rfl rfl rfl rfl ?_
  refine WL.run 2 tt_ok sg0 rfl rfl trivial ?_
  refine WL.eff 115 tt_ok et_ok eg0 rfl rfl rfl trivial ?_
  refine WL.freezeT 115 enc_api_Ins ([(⟨21, 0, 0⟩ : T_api_Ins)] : List T_api_Ins) rfl rfl rfl rfl ?_
  refine WL.run 1 tt_ok sg0 rfl rfl trivial ?_
  refine WL.eff 117 tt_ok et_ok eg0 rfl rfl rfl trivial ?_
  refine WL.freezeT 117 enc_api_Func ([(⟨0, 0, ([(⟨0, 0, 0⟩ : T_api_Ins), (⟨0, 0, 0⟩ : T_api_Ins), (⟨3, 0, 0⟩ : T_api_Ins), (⟨21, 0, 0⟩ : T_api_Ins)] : List T_api_Ins)⟩ : T_api_Func), (⟨0, 0, ([(⟨21, 0, 0⟩ : T_api_Ins)] : List T_api_Ins)⟩ : T_api_Func)] : List T_api_Func) rfl rfl rfl rfl ?_
  refine WL.run 1 tt_ok sg0 rfl rfl trivial ?_
  refine WL.alloc 101 tt_ok rfl rfl rfl ?_
  refine WL.eff 0 tt_ok et_ok eg0 rfl rfl rfl trivial ?_
  refine WL.nil ?_
  refine QT.n ?_
  refine WC.seq ?_
  refine WC.region ?_
  refine WL.run 1 tt_ok sg0 rfl rfl trivial ?_
  refine WL.le 20 (.agg [slT enc_api_Decl [], slT enc_sl_sl_api_Need [], slT enc_api_Func ([(⟨0, 0, ([(⟨0, 0, 0⟩ : T_api_Ins), (⟨0, 0, 0⟩ : T_api_Ins), (⟨3, 0, 0⟩ : T_api_Ins), (⟨21, 0, 0⟩ : T_api_Ins)] : List T_api_Ins)⟩ : T_api_Func), (⟨0, 0, ([(⟨21, 0, 0⟩ : T_api_Ins)] : List T_api_Ins)⟩ : T_api_Func)] : List T_api_Func)]) rfl (Le.agg (.cons (Le.nilT enc_api_Decl) (.cons (Le.nilT enc_sl_sl_api_Need) (.cons .rfl' .nil)))) ?_
  obtain ⟨x1, hx1, H⟩ := of_bind H
  refine WL.call [] (depth_Of_0 _ _ hx1) depth_Of_f rfl rfl trivial rfl rfl rfl ?_
  refine WL.run 7 tt_ok sg0 rfl rfl trivial ?_
  refine WL.nil ?_
  refine QT.n ?_
  refine WC.seq ?_
  refine WC.region ?_
  refine WL.run 1 tt_ok sg0 rfl rfl trivial ?_
  refine WL.le 26 (.agg [slT enc_api_Decl [], slT enc_sl_sl_api_Need [], slT enc_api_Func ([(⟨0, 0, ([(⟨0, 0, 0⟩ : T_api_Ins), (⟨0, 0, 0⟩ : T_api_Ins), (⟨3, 0, 0⟩ : T_api_Ins), (⟨21, 0, 0⟩ : T_api_Ins)] : List T_api_Ins)⟩ : T_api_Func), (⟨0, 0, ([(⟨21, 0, 0⟩ : T_api_Ins)] : List T_api_Ins)⟩ : T_api_Func)] : List T_api_Func)]) rfl (Le.agg (.cons (Le.nilT enc_api_Decl) (.cons (Le.nilT enc_sl_sl_api_Need) (.cons .rfl' .nil)))) ?_
  obtain ⟨x2, hx2, H⟩ := of_bind H
  refine WL.call [] (depth_Of_0 _ _ hx2) depth_Of_f rfl rfl trivial rfl rfl rfl ?_
  refine WL.run 7 tt_ok sg0 rfl rfl trivial ?_
  refine WL.nil ?_
  refine QT.n ?_
  refine WC.seq ?_
  refine WC.region ?_
  refine WL.run 4 tt_ok sg0 rfl rfl trivial ?_
  obtain ⟨g3, H⟩ := of_needS H
  refine WL.sect 4 3 true tt_ok sg0 rfl rfl (fun hb => ⟨⟨(nIn_ok (g3 hb)).1, (nIn_ok (g3 hb)).2, rfl⟩, trivial⟩) ?_
  refine WL.run 2 tt_ok sg0 rfl rfl ⟨by first | exact id | exact fun h => by rw [h]; rfl | simp_all, trivial⟩ ?_
  obtain ⟨g4, H⟩ := of_needS H
  refine WL.sect 4 9 true tt_ok sg0 rfl rfl (fun hb => ⟨⟨(nIn_ok (g4 hb)).1, (nIn_ok (g4 hb)).2, rfl⟩, trivial⟩) ?_
  refine WL.run 2 tt_ok sg0 rfl rfl ⟨by first | exact id | exact fun h => by rw [h]; rfl | simp_all, trivial⟩ ?_
  refine WL.sect 2 15 true tt_ok sg0 rfl rfl (fun _ => trivial) ?_
  refine WL.run 2 tt_ok sg0 rfl rfl ⟨by first | exact id | exact fun h => by rw [h]; rfl | simp_all, trivial⟩ ?_
  refine WL.sect 2 19 true tt_ok sg0 rfl rfl (fun _ => trivial) ?_
  refine WL.run 2 tt_ok sg0 rfl rfl ⟨by first | exact id | exact fun h => by rw [h]; rfl | simp_all, trivial⟩ ?_
  refine WL.sect 2 23 true tt_ok sg0 rfl rfl (fun _ => trivial) ?_
  refine WL.run 2 tt_ok sg0 rfl rfl ⟨by first | exact id | exact fun h => by rw [h]; rfl | simp_all, trivial⟩ ?_
  obtain ⟨x5, hx5, H⟩ := of_bind H
  refine WL.sect 3 27 true tt_ok [PSig.at' depth_Most_f (((((((iEq (x1.1.length : Int) 4) && (iEq (x1.1.getD (2 : Int).toNat default) 2)) && (iEq (x1.1.getD (3 : Int).toNat default) 1)) && (iEq x1.2.2 0)) && (iEq x2.2.1 0)) && (iEq x2.2.2 2)) = true) rfl (fun hb => depth_Most_0 _ (of_t hx5 hb))] rfl rfl (fun hb => ⟨⟨hb, rfl⟩, trivial⟩) ?_
  refine WL.run 2 tt_ok sg0 rfl rfl ⟨by first | exact id | exact fun h => by rw [h]; rfl | simp_all, trivial⟩ ?_
  refine WL.nil ?_
  refine QT.n ?_
  refine WC.ret ?_
  cases H
  exact Ends.auto rfl rfl rfl trivial
theorem law11_lives_f : hasFunc Try.prog 6 Try.f6 := ⟨Try.func6, rfl, by kernel_rfl⟩

/-! ### logjam/logjamlaw09.Own -/
theorem law09_Own_0 (a0 : List (List T_api_Need)) {r : List (List T_api_Need)} (H : law09_Own a0 = some r) : LJ.Spec Try.prog 17 [.d (slT enc_sl_api_Need a0)] [] (.d (slT enc_sl_api_Need r)) [] := by
  refine LJ.Spec.code Try.func17 rfl 33 rfl rfl [] rfl fun w0 F0 S0 B0 => ?_
  unfold law09_Own at H
  refine WC.seq ?_
  refine WC.region ?_
  refine WL.run 1 tt_ok sg0 rfl rfl trivial ?_
  refine WL.nil ?_
  refine QT.n ?_
  refine WC.seq ?_
  refine WC.region ?_
  refine WL.eff 106 tt_ok et_ok eg0 rfl rfl rfl trivial ?_
  refine WL.run 1 tt_ok sg0 rfl rfl trivial ?_
  refine WL.nil ?_
  refine QT.n ?_
  refine WC.seq ?_
  refine WC.seq ?_
  refine WC.region ?_
  refine WL.run 1 tt_ok sg0 rfl rfl trivial ?_
  refine WL.nil ?_
  refine QT.n ?_
  refine WC.block ?_
  refine WC.loop (ι := {x : Nat × (Int × (List (List T_api_Need))) // law09_Own_l2 a0 x.1 x.2 = some r}) (fun x => [(0, .d (slT enc_sl_api_Need a0)), (3, .own 106), (4, .d (.int .i64 x.1.2.1))]) (fun x => [(106, .row 61 1 (x.1.2.2.map enc_sl_api_Need))]) (fun x => x.1.1) ⟨(fuel, (0, ([] : List (List T_api_Need)))), H⟩ (Less.mk' ⟨rfl, rfl, rfl, trivial⟩ ⟨rfl, trivial⟩) fun x => ?_
  obtain ⟨⟨k2, s1⟩, H⟩ := x
  rcases k2 with _ | k2
  · exact of_none H
  rw [law09_Own_l2] at H
  refine WC.seq ?_
  refine WC.seq ?_
  refine WC.region ?_
  refine WL.run 5 tt_ok sg0 rfl rfl trivial ?_
  refine WL.sect 2 4 true tt_ok sg0 rfl rfl (fun _ => trivial) ?_
  refine WL.run 1 tt_ok sg0 rfl rfl ⟨by first | exact id | exact fun h => by rw [h]; rfl | simp_all, trivial⟩ ?_
  refine WL.nil ?_
  refine QT.n ?_
  refine WC.cond rfl (fun h3 => ?_) (fun h3 => ?_)
  · replace H := of_t H h3
    refine WC.skip ?_
    refine QT.n ?_
    refine WC.seq ?_
    refine WC.block ?_
    refine WC.seq ?_
    refine WC.region ?_
    obtain ⟨g4, H⟩ := of_need H
    refine WL.run 5 tt_ok sg0 rfl rfl ⟨⟨(nIn_ok g4).1, (nIn_ok g4).2, rfl⟩, trivial⟩ ?_
    refine WL.nil ?_
    refine QT.n ?_
    refine WC.seq ?_
    refine WC.seq ?_
    refine WC.region ?_
    refine WL.run 3 tt_ok sg0 rfl rfl trivial ?_
    refine WL.nil ?_
    refine QT.n ?_
    refine WC.cond rfl (fun h5 => ?_) (fun h5 => ?_)
    · replace H := of_t H h5
      refine WC.region ?_
      refine WL.run 1 tt_ok sg0 rfl rfl trivial ?_
      obtain ⟨g6, H⟩ := of_need H
      refine WL.yv (LJ.Y.sliceT enc_api_Need (a0.getD s1.1.toNat default) tt_ok rfl (fun _ => rfl) none (some (.const (.int .i64 6))) (0 : Int) (6 : Int) rfl rfl ⟨_, rfl⟩ rfl rfl (nSl_ok g6)) rfl rfl rfl ?_
      refine WL.run 1 tt_ok sg0 rfl rfl trivial ?_
      refine WL.nil ?_
      refine QT.n ?_
      refine WC.region ?_
      refine WL.run 1 tt_ok sg0 rfl rfl trivial ?_
      refine WL.eff 127 tt_ok et_ok eg0 rfl rfl rfl trivial ?_
      refine WL.run 1 tt_ok sg0 rfl rfl trivial ?_
      refine WL.row 127 (([] : List T_api_Need).map enc_api_Need) rfl rfl rfl ?_
      obtain ⟨g7, H⟩ := of_need H
      refine WL.appT enc_api_Need ([] : List T_api_Need) (((a0.getD s1.1.toNat default).take (6 : Int).toNat).drop (0 : Int).toNat) tt_ok et_ok rfl rfl (fun _ => rfl) (fun _ => rfl) rfl rfl rfl rfl (nCap_ok g7) rfl rfl rfl rfl rfl ?_
      refine WL.freezeT 127 enc_api_Need (([] : List T_api_Need) ++ (((a0.getD s1.1.toNat default).take (6 : Int).toNat).drop (0 : Int).toNat)) rfl rfl rfl rfl ?_
      refine WL.eff 130 tt_ok et_ok eg0 rfl rfl rfl trivial ?_
      refine WL.freezeT 130 enc_sl_api_Need ([([] : List T_api_Need) ++ (((a0.getD s1.1.toNat default).take (6 : Int).toNat).drop (0 : Int).toNat)] : List (List T_api_Need)) rfl rfl rfl rfl ?_
      obtain ⟨g8, H⟩ := of_need H
      refine WL.appT enc_sl_api_Need s1.2 ([([] : List T_api_Need) ++ (((a0.getD s1.1.toNat default).take (6 : Int).toNat).drop (0 : Int).toNat)] : List (List T_api_Need)) tt_ok et_ok rfl rfl (fun _ => rfl) (fun _ => rfl) rfl rfl rfl rfl (nCap_ok g8) rfl rfl rfl rfl rfl ?_
      refine WL.run 1 tt_ok sg0 rfl rfl trivial ?_
      refine WL.nil ?_
      refine QB.n (QT.n ?_)
      refine WC.region ?_
      refine WL.run 3 tt_ok sg0 rfl rfl trivial ?_
      refine WL.nil ?_
      refine QT.n ?_
      exact ⟨⟨(k2, (IntKind.i64.wrap (s1.1 + 1), s1.2 ++ ([([] : List T_api_Need) ++ (((a0.getD s1.1.toNat default).take (6 : Int).toNat).drop (0 : Int).toNat)] : List (List T_api_Need)))), H⟩, Nat.lt_succ_self _, Less.mk' ⟨rfl, rfl, rfl, trivial⟩ ⟨rfl, trivial⟩⟩
    replace H := of_f H h5
    refine WC.skip ?_
    refine QT.n ?_
    refine WC.region ?_
    refine WL.run 1 tt_ok sg0 rfl rfl trivial ?_
    refine WL.eff 127 tt_ok et_ok eg0 rfl rfl rfl trivial ?_
    refine WL.run 1 tt_ok sg0 rfl rfl trivial ?_
    refine WL.row 127 (([] : List T_api_Need).map enc_api_Need) rfl rfl rfl ?_
    obtain ⟨g9, H⟩ := of_need H
    refine WL.appT enc_api_Need ([] : List T_api_Need) (a0.getD s1.1.toNat default) tt_ok et_ok rfl rfl (fun _ => rfl) (fun _ => rfl) rfl rfl rfl rfl (nCap_ok g9) rfl rfl rfl rfl rfl ?_
    refine WL.freezeT 127 enc_api_Need (([] : List T_api_Need) ++ (a0.getD s1.1.toNat default)) rfl rfl rfl rfl ?_
    refine WL.eff 130 tt_ok et_ok eg0 rfl rfl rfl trivial ?_
    refine WL.freezeT 130 enc_sl_api_Need ([([] : List T_api_Need) ++ (a0.getD s1.1.toNat default)] : List (List T_api_Need)) rfl rfl rfl rfl ?_
    obtain ⟨g10, H⟩ := of_need H
    refine WL.appT enc_sl_api_Need s1.2 ([([] : List T_api_Need) ++ (a0.getD s1.1.toNat default)] : List (List T_api_Need)) tt_ok et_ok rfl rfl (fun _ => rfl) (fun _ => rfl) rfl rfl rfl rfl (nCap_ok g10) rfl rfl rfl rfl rfl ?_
    refine WL.run 1 tt_ok sg0 rfl rfl trivial ?_
    refine WL.nil ?_
    refine QB.n (QT.n ?_)
    refine WC.region ?_
    refine WL.run 3 tt_ok sg0 rfl rfl trivial ?_
    refine WL.nil ?_
    refine QT.n ?_
    exact ⟨⟨(k2, (IntKind.i64.wrap (s1.1 + 1), s1.2 ++ ([([] : List T_api_Need) ++ (a0.getD s1.1.toNat default)] : List (List T_api_Need)))), H⟩, Nat.lt_succ_self _, Less.mk' ⟨rfl, rfl, rfl, trivial⟩ ⟨rfl, trivial⟩⟩
  replace H := of_f H h3
  refine WC.exit ?_
  refine QT.x (QT.x (QB.hit (QT.n ?_)))
  refine WC.seq ?_
  refine WC.region ?_
  refine WL.run 2 tt_ok sg0 rfl rfl trivial ?_
  refine WL.nil ?_
  refine QT.n ?_
  refine WC.freezeT 106 enc_sl_api_Need s1.2 rfl rfl rfl rfl ?_
  refine WC.ret ?_
  cases H
  exact Ends.auto rfl rfl rfl trivial
theorem law09_Own_f : hasFunc Try.prog 17 Try.f17 := ⟨Try.func17, rfl, by kernel_rfl⟩

/-! ### logjam/logjamlaw10.Own -/
theorem law10_Own_0 (a0 : T_api_Program) {r : T_api_Program} (H : law10_Own a0 = some r) : LJ.Spec Try.prog 8 [.d (.agg [slT enc_api_Decl a0.Decls, slT enc_sl_sl_api_Need a0.Waits, slT enc_api_Func a0.Funcs])] [] (.d (.agg [slT enc_api_Decl r.Decls, slT enc_sl_sl_api_Need r.Waits, slT enc_api_Func r.Funcs])) [] := by
  refine LJ.Spec.code Try.func8 rfl 113 rfl rfl [] rfl fun w0 F0 S0 B0 => ?_
  unfold law10_Own at H
  refine WC.seq ?_
  refine WC.region ?_
  refine WL.eff 101 tt_ok et_ok eg0 rfl rfl rfl trivial ?_
  refine WL.alloc 102 tt_ok rfl rfl rfl ?_
  refine WL.nil ?_
  refine QT.n ?_
  refine WC.seq ?_
  refine WC.region ?_
  refine WL.run 1 tt_ok sg0 rfl rfl trivial ?_
  refine WL.alloc 103 tt_ok rfl rfl rfl ?_
  refine WL.eff 0 tt_ok et_ok eg0 rfl rfl rfl trivial ?_
  refine WL.nil ?_
  refine QT.n ?_
  refine WC.seq ?_
  refine WC.seq ?_
  refine WC.region ?_
  refine WL.run 1 tt_ok sg0 rfl rfl trivial ?_
  refine WL.nil ?_
  refine QT.n ?_
  refine WC.block ?_
  refine WC.nilF 103 0 1022 56 3 rfl ?_
  refine WC.loop (ι := {x : Nat × (Int × (List T_api_Decl)) // law10_Own_l3 a0 x.1 x.2 = some r}) (fun x => [(1, .ptr 101 0), (2, .ptr 102 0), (3, .ptr 103 0), (4, .d (.int .i64 x.1.2.1))]) (fun x => [(101, .box 26 [.d (slT enc_api_Decl a0.Decls), .d (slT enc_sl_sl_api_Need a0.Waits), .d (slT enc_api_Func a0.Funcs)]), (102, .box 26 [.d (.nils), .d (.nils), .d (.nils)]), (103, .box 26 [.own 1022, .d (.nils), .d (.nils)]), (1022, .row 56 3 (x.1.2.2.map enc_api_Decl))]) (fun x => x.1.1) ⟨(fuel, (0, ([] : List T_api_Decl))), H⟩ (Less.mk' ⟨rfl, rfl, rfl, rfl, trivial⟩ ⟨rfl, rfl, rfl, rfl, trivial⟩) fun x => ?_
  obtain ⟨⟨k3, s2⟩, H⟩ := x
  rcases k3 with _ | k3
  · exact of_none H
  rw [law10_Own_l3] at H
  refine WC.seq ?_
  refine WC.seq ?_
  refine WC.region ?_
  refine WL.run 6 tt_ok sg0 rfl rfl trivial ?_
  refine WL.sect 2 5 true tt_ok sg0 rfl rfl (fun _ => trivial) ?_
  refine WL.run 1 tt_ok sg0 rfl rfl ⟨by first | exact id | exact fun h => by rw [h]; rfl | simp_all, trivial⟩ ?_
  refine WL.nil ?_
  refine QT.n ?_
  refine WC.cond rfl (fun h4 => ?_) (fun h4 => ?_)
  · replace H := of_t H h4
    refine WC.skip ?_
    refine QT.n ?_
    refine WC.seq ?_
    refine WC.block ?_
    obtain ⟨g5_5_1, H⟩ := of_need H
    obtain ⟨g5_8_1, H⟩ := of_need H
    refine WC.heldF [(1, .ptr 101 0), (2, .ptr 102 0), (3, .ptr 103 0), (4, .d (.int .i64 s2.1))] [(101, .box 26 [.d (slT enc_api_Decl a0.Decls), .d (slT enc_sl_sl_api_Need a0.Waits), .d (slT enc_api_Func a0.Funcs)]), (102, .box 26 [.d (.nils), .d (.nils), .d (.nils)]), (103, .box 26 [.own 1022, .d (.nils), .d (.nils)]), (1022, .row 56 3 ((s2.2 ++ ([(a0.Decls.getD s2.1.toNat default)] : List T_api_Decl)).map enc_api_Decl))] (.one 0 true (.one 2 true (.one 3 true (.one 4 true (.one 5 true (.one 6 true (.fork (.one 1 false (.one 7 false (.one 8 false (.one 9 true (.one 10 false .done))))) (.one 7 false (.one 1 false (.one 8 false (.one 9 true (.one 10 false .done)))))))))))) [101, 102, 103] [101, 102] rfl (by kernel_rfl) rfl (by kernel_rfl) rfl rfl (fun _ h => h) rfl rfl rfl (fun FK NK wK K => ?_) ?_
    · refine WH.run 6 tt_ok rfl rfl rfl rfl ⟨⟨(nIn_ok g5_5_1).1, (nIn_ok g5_5_1).2, rfl⟩, trivial⟩ ?_
      refine WH.fork ?_ ?_
      · refine WH.val tt_ok rfl rfl rfl rfl rfl trivial rfl rfl ?_
        refine WH.eff 128 tt_ok et_ok rfl rfl rfl rfl trivial rfl rfl ?_
        refine WH.freezeT 128 enc_api_Decl ([(a0.Decls.getD s2.1.toNat default)] : List T_api_Decl) rfl rfl rfl rfl ?_
        refine WH.appT enc_api_Decl s2.2 ([(a0.Decls.getD s2.1.toNat default)] : List T_api_Decl) tt_ok et_ok rfl rfl (fun _ => rfl) (fun _ => rfl) rfl rfl rfl rfl rfl (nCap_ok g5_8_1) rfl rfl rfl rfl rfl rfl rfl ?_
        refine WH.run 1 tt_ok rfl rfl rfl rfl trivial ?_
        refine WH.eff 0 tt_ok et_ok rfl rfl rfl rfl trivial rfl rfl ?_
        exact WH.nilF rfl (LessW.mk' ⟨AVle.of rfl, AVle.of rfl, AVle.of rfl, AVle.of rfl, trivial⟩ ⟨rfl, rfl, rfl, rfl, trivial⟩)
      · refine WH.eff 128 tt_ok et_ok rfl rfl rfl rfl trivial rfl rfl ?_
        refine WH.freezeT 128 enc_api_Decl ([(a0.Decls.getD s2.1.toNat default)] : List T_api_Decl) rfl rfl rfl rfl ?_
        refine WH.val tt_ok rfl rfl rfl rfl rfl trivial rfl rfl ?_
        refine WH.appT enc_api_Decl s2.2 ([(a0.Decls.getD s2.1.toNat default)] : List T_api_Decl) tt_ok et_ok rfl rfl (fun _ => rfl) (fun _ => rfl) rfl rfl rfl rfl rfl (nCap_ok g5_8_1) rfl rfl rfl rfl rfl rfl rfl ?_
        refine WH.run 1 tt_ok rfl rfl rfl rfl trivial ?_
        refine WH.eff 0 tt_ok et_ok rfl rfl rfl rfl trivial rfl rfl ?_
        exact WH.nilF rfl (LessW.mk' ⟨AVle.of rfl, AVle.of rfl, AVle.of rfl, AVle.of rfl, trivial⟩ ⟨rfl, rfl, rfl, rfl, trivial⟩)
    · refine QB.n (QT.n ?_)
      refine WC.region ?_
      refine WL.run 3 tt_ok sg0 rfl rfl trivial ?_
      refine WL.nil ?_
      refine QT.n ?_
      exact ⟨⟨(k3, (IntKind.i64.wrap (s2.1 + 1), s2.2 ++ ([(a0.Decls.getD s2.1.toNat default)] : List T_api_Decl))), H⟩, Nat.lt_succ_self _, Less.mk' ⟨rfl, rfl, rfl, rfl, trivial⟩ ⟨rfl, rfl, rfl, rfl, trivial⟩⟩
  replace H := of_f H h4
  refine WC.exit ?_
  refine QT.x (QT.x (QB.hit (QT.n ?_)))
  refine WC.seq ?_
  refine WC.seq ?_
  refine WC.region ?_
  refine WL.run 1 tt_ok sg0 rfl rfl trivial ?_
  refine WL.nil ?_
  refine QT.n ?_
  refine WC.block ?_
  refine WC.nilF 103 1 1043 47 1 rfl ?_
  refine WC.loop (ι := {x : Nat × (Int × (List (List (List T_api_Need)))) // law10_Own_l7 a0 s2 x.1 x.2 = some r}) (fun x => [(1, .ptr 101 0), (2, .ptr 102 0), (3, .ptr 103 0), (5, .d (.int .i64 x.1.2.1))]) (fun x => [(101, .box 26 [.d (slT enc_api_Decl a0.Decls), .d (slT enc_sl_sl_api_Need a0.Waits), .d (slT enc_api_Func a0.Funcs)]), (102, .box 26 [.d (.nils), .d (.nils), .d (.nils)]), (103, .box 26 [.own 1022, .own 1043, .d (.nils)]), (1022, .row 56 3 (s2.2.map enc_api_Decl)), (1043, .row 47 1 (x.1.2.2.map enc_sl_sl_api_Need))]) (fun x => x.1.1) ⟨(fuel, (0, ([] : List (List (List T_api_Need))))), H⟩ (Less.mk' ⟨rfl, rfl, rfl, rfl, trivial⟩ ⟨rfl, rfl, rfl, rfl, rfl, trivial⟩) fun x => ?_
  obtain ⟨⟨k7, s6⟩, H⟩ := x
  rcases k7 with _ | k7
  · exact of_none H
  rw [law10_Own_l7] at H
  refine WC.seq ?_
  refine WC.seq ?_
  refine WC.region ?_
  refine WL.run 6 tt_ok sg0 rfl rfl trivial ?_
  refine WL.sect 2 5 true tt_ok sg0 rfl rfl (fun _ => trivial) ?_
  refine WL.run 1 tt_ok sg0 rfl rfl ⟨by first | exact id | exact fun h => by rw [h]; rfl | simp_all, trivial⟩ ?_
  refine WL.nil ?_
  refine QT.n ?_
  refine WC.cond rfl (fun h8 => ?_) (fun h8 => ?_)
  · replace H := of_t H h8
    refine WC.skip ?_
    refine QT.n ?_
    refine WC.seq ?_
    refine WC.block ?_
    obtain ⟨g9_5_1, H⟩ := of_need H
    obtain ⟨x9_7_1, hx9_7_1, H⟩ := of_bind H
    obtain ⟨g9_9_1, H⟩ := of_need H
    refine WC.heldF [(1, .ptr 101 0), (2, .ptr 102 0), (3, .ptr 103 0), (5, .d (.int .i64 s6.1))] [(101, .box 26 [.d (slT enc_api_Decl a0.Decls), .d (slT enc_sl_sl_api_Need a0.Waits), .d (slT enc_api_Func a0.Funcs)]), (102, .box 26 [.d (.nils), .d (.nils), .d (.nils)]), (103, .box 26 [.own 1022, .own 1043, .d (.nils)]), (1022, .row 56 3 (s2.2.map enc_api_Decl)), (1043, .row 47 1 ((s6.2 ++ ([x9_7_1] : List (List (List T_api_Need)))).map enc_sl_sl_api_Need))] (.one 0 true (.one 2 true (.one 3 true (.one 4 true (.one 5 true (.one 6 true (.fork (.one 1 false (.one 7 false (.one 8 false (.one 9 false (.one 10 true (.one 11 false .done)))))) (.one 7 false (.fork (.one 1 false (.one 8 false (.one 9 false (.one 10 true (.one 11 false .done))))) (.one 8 false (.one 1 false (.one 9 false (.one 10 true (.one 11 false .done)))))))))))))) [101, 102, 103] [101, 102] rfl (by kernel_rfl) rfl (by kernel_rfl) rfl rfl (fun _ h => h) rfl rfl rfl (fun FK NK wK K => ?_) ?_
    · refine WH.run 6 tt_ok rfl rfl rfl rfl ⟨⟨(nIn_ok g9_5_1).1, (nIn_ok g9_5_1).2, rfl⟩, trivial⟩ ?_
      refine WH.fork ?_ ?_
      · refine WH.val tt_ok rfl rfl rfl rfl rfl trivial rfl rfl ?_
        refine WH.call [] rfl (law09_Own_0 _ hx9_7_1) law09_Own_f rfl rfl trivial rfl rfl rfl rfl rfl ?_
        refine WH.eff 150 tt_ok et_ok rfl rfl rfl rfl trivial rfl rfl ?_
        refine WH.freezeT 150 enc_sl_sl_api_Need ([x9_7_1] : List (List (List T_api_Need))) rfl rfl rfl rfl ?_
        refine WH.appT enc_sl_sl_api_Need s6.2 ([x9_7_1] : List (List (List T_api_Need))) tt_ok et_ok rfl rfl (fun _ => rfl) (fun _ => rfl) rfl rfl rfl rfl rfl (nCap_ok g9_9_1) rfl rfl rfl rfl rfl rfl rfl ?_
        refine WH.run 1 tt_ok rfl rfl rfl rfl trivial ?_
        refine WH.eff 0 tt_ok et_ok rfl rfl rfl rfl trivial rfl rfl ?_
        exact WH.nilF rfl (LessW.mk' ⟨AVle.of rfl, AVle.of rfl, AVle.of rfl, AVle.of rfl, trivial⟩ ⟨rfl, rfl, rfl, rfl, rfl, trivial⟩)
      · refine WH.call [] rfl (law09_Own_0 _ hx9_7_1) law09_Own_f rfl rfl trivial rfl rfl rfl rfl rfl ?_
        refine WH.fork ?_ ?_
        · refine WH.val tt_ok rfl rfl rfl rfl rfl trivial rfl rfl ?_
          refine WH.eff 150 tt_ok et_ok rfl rfl rfl rfl trivial rfl rfl ?_
          refine WH.freezeT 150 enc_sl_sl_api_Need ([x9_7_1] : List (List (List T_api_Need))) rfl rfl rfl rfl ?_
          refine WH.appT enc_sl_sl_api_Need s6.2 ([x9_7_1] : List (List (List T_api_Need))) tt_ok et_ok rfl rfl (fun _ => rfl) (fun _ => rfl) rfl rfl rfl rfl rfl (nCap_ok g9_9_1) rfl rfl rfl rfl rfl rfl rfl ?_
          refine WH.run 1 tt_ok rfl rfl rfl rfl trivial ?_
          refine WH.eff 0 tt_ok et_ok rfl rfl rfl rfl trivial rfl rfl ?_
          exact WH.nilF rfl (LessW.mk' ⟨AVle.of rfl, AVle.of rfl, AVle.of rfl, AVle.of rfl, trivial⟩ ⟨rfl, rfl, rfl, rfl, rfl, trivial⟩)
        · refine WH.eff 150 tt_ok et_ok rfl rfl rfl rfl trivial rfl rfl ?_
          refine WH.freezeT 150 enc_sl_sl_api_Need ([x9_7_1] : List (List (List T_api_Need))) rfl rfl rfl rfl ?_
          refine WH.val tt_ok rfl rfl rfl rfl rfl trivial rfl rfl ?_
          refine WH.appT enc_sl_sl_api_Need s6.2 ([x9_7_1] : List (List (List T_api_Need))) tt_ok et_ok rfl rfl (fun _ => rfl) (fun _ => rfl) rfl rfl rfl rfl rfl (nCap_ok g9_9_1) rfl rfl rfl rfl rfl rfl rfl ?_
          refine WH.run 1 tt_ok rfl rfl rfl rfl trivial ?_
          refine WH.eff 0 tt_ok et_ok rfl rfl rfl rfl trivial rfl rfl ?_
          exact WH.nilF rfl (LessW.mk' ⟨AVle.of rfl, AVle.of rfl, AVle.of rfl, AVle.of rfl, trivial⟩ ⟨rfl, rfl, rfl, rfl, rfl, trivial⟩)
    · refine QB.n (QT.n ?_)
      refine WC.region ?_
      refine WL.run 3 tt_ok sg0 rfl rfl trivial ?_
      refine WL.nil ?_
      refine QT.n ?_
      exact ⟨⟨(k7, (IntKind.i64.wrap (s6.1 + 1), s6.2 ++ ([x9_7_1] : List (List (List T_api_Need))))), H⟩, Nat.lt_succ_self _, Less.mk' ⟨rfl, rfl, rfl, rfl, trivial⟩ ⟨rfl, rfl, rfl, rfl, rfl, trivial⟩⟩
  replace H := of_f H h8
  refine WC.exit ?_
  refine QT.x (QT.x (QB.hit (QT.n ?_)))
  refine WC.seq ?_
  refine WC.seq ?_
  refine WC.region ?_
  refine WL.run 1 tt_ok sg0 rfl rfl trivial ?_
  refine WL.nil ?_
  refine QT.n ?_
  refine WC.block ?_
  refine WC.nilF 103 2 1107 37 3 rfl ?_
  refine WC.loop (ι := {x : Nat × (Int × (List T_api_Func)) // law10_Own_l11 a0 s2 s6 x.1 x.2 = some r}) (fun x => [(1, .ptr 101 0), (2, .ptr 102 0), (3, .ptr 103 0), (6, .d (.int .i64 x.1.2.1))]) (fun x => [(101, .box 26 [.d (slT enc_api_Decl a0.Decls), .d (slT enc_sl_sl_api_Need a0.Waits), .d (slT enc_api_Func a0.Funcs)]), (102, .box 26 [.d (.nils), .d (.nils), .d (.nils)]), (103, .box 26 [.own 1022, .own 1043, .own 1107]), (1022, .row 56 3 (s2.2.map enc_api_Decl)), (1043, .row 47 1 (s6.2.map enc_sl_sl_api_Need)), (1107, .row 37 3 (x.1.2.2.map enc_api_Func))]) (fun x => x.1.1) ⟨(fuel, (0, ([] : List T_api_Func))), H⟩ (Less.mk' ⟨rfl, rfl, rfl, rfl, trivial⟩ ⟨rfl, rfl, rfl, rfl, rfl, rfl, trivial⟩) fun x => ?_
  obtain ⟨⟨k11, s10⟩, H⟩ := x
  rcases k11 with _ | k11
  · exact of_none H
  rw [law10_Own_l11] at H
  refine WC.seq ?_
  refine WC.seq ?_
  refine WC.region ?_
  refine WL.run 6 tt_ok sg0 rfl rfl trivial ?_
  refine WL.sect 2 5 true tt_ok sg0 rfl rfl (fun _ => trivial) ?_
  refine WL.run 1 tt_ok sg0 rfl rfl ⟨by first | exact id | exact fun h => by rw [h]; rfl | simp_all, trivial⟩ ?_
  refine WL.nil ?_
  refine QT.n ?_
  refine WC.cond rfl (fun h12 => ?_) (fun h12 => ?_)
  · replace H := of_t H h12
    refine WC.skip ?_
    refine QT.n ?_
    obtain ⟨K13, hK13, H⟩ := of_withK H
    refine WC.cut (fun E m => ∃ s14 : List T_api_Func, K13 s14 = some r ∧ LessW E m [(1, .ptr 101 0), (2, .ptr 102 0), (3, .ptr 103 0), (6, .d (.int .i64 s10.1))] [(101, .box 26 [.d (slT enc_api_Decl a0.Decls), .d (slT enc_sl_sl_api_Need a0.Waits), .d (slT enc_api_Func a0.Funcs)]), (102, .box 26 [.d (.nils), .d (.nils), .d (.nils)]), (103, .box 26 [.own 1022, .own 1043, .own 1107]), (1022, .row 56 3 (s2.2.map enc_api_Decl)), (1043, .row 47 1 (s6.2.map enc_sl_sl_api_Need)), (1107, .row 37 3 (s14.map enc_api_Func))]) ?_ ?_
    · refine WC.block ?_
      refine WC.seq ?_
      refine WC.heldP (.one 0 true (.one 1 true (.one 2 true (.one 3 true (.one 4 true (.one 5 true (.one 6 true (.one 7 true (.one 8 true (.one 9 true (.one 10 true (.one 11 true (.one 12 true (.one 13 false (.one 14 false .done))))))))))))))) [101, 102, 103] [101, 102, 103] rfl (by kernel_rfl) rfl (by kernel_rfl) rfl rfl (fun _ h => h) rfl rfl rfl (fun _ _ _ h => h) fun FK NK wK K => ?_
      obtain ⟨g15, H⟩ := of_need H
      obtain ⟨g16, H⟩ := of_need H
      refine WH.run 13 tt_ok rfl rfl rfl rfl ⟨⟨(nIn_ok g15).1, (nIn_ok g15).2, rfl⟩, ⟨(nIn_ok g16).1, (nIn_ok g16).2, rfl⟩, trivial⟩ ?_
      refine WH.alloc 107 tt_ok rfl rfl rfl rfl rfl rfl ?_
      refine WH.eff 0 tt_ok et_ok rfl rfl rfl rfl trivial rfl rfl ?_
      refine WH.nil rfl ?_
      refine QT.n ?_
      refine WC.seq ?_
      refine WC.seq ?_
      refine WC.region ?_
      refine WL.run 1 tt_ok sg0 rfl rfl trivial ?_
      refine WL.nil ?_
      refine QT.n ?_
      refine WC.block ?_
      refine WC.nilF 107 2 1093 40 3 rfl ?_
      refine WC.loop (ι := {x : Nat × (Int × (List T_api_Ins)) // law10_Own_l19 a0 s10 K13 x.1 x.2 = some r}) (fun x => [(1, .ptr 101 0), (2, .ptr 102 0), (3, .ptr 103 0), (6, .d (.int .i64 s10.1)), (7, .ptr 107 0), (8, .d (.int .i64 x.1.2.1))]) (fun x => [(101, .box 26 [.d (slT enc_api_Decl a0.Decls), .d (slT enc_sl_sl_api_Need a0.Waits), .d (slT enc_api_Func a0.Funcs)]), (102, .box 26 [.d (.nils), .d (.nils), .d (.nils)]), (103, .box 26 [.own 1022, .own 1043, .own 1107]), (107, .box 37 [.d (.int .i64 ((a0.Funcs.getD s10.1.toNat default).Args)), .d (.int .i64 ((a0.Funcs.getD s10.1.toNat default).Locals)), .own 1093]), (1022, .row 56 3 (s2.2.map enc_api_Decl)), (1043, .row 47 1 (s6.2.map enc_sl_sl_api_Need)), (1093, .row 40 3 (x.1.2.2.map enc_api_Ins)), (1107, .row 37 3 (s10.2.map enc_api_Func))]) (fun x => x.1.1) ⟨(fuel, (0, ([] : List T_api_Ins))), H⟩ (Less.mk' ⟨rfl, rfl, rfl, rfl, rfl, rfl, trivial⟩ ⟨rfl, rfl, rfl, rfl, rfl, rfl, rfl, rfl, trivial⟩) fun x => ?_
      obtain ⟨⟨k19, s18⟩, H⟩ := x
      rcases k19 with _ | k19
      · exact of_none H
      rw [law10_Own_l19] at H
      refine WC.seq ?_
      refine WC.seq ?_
      refine WC.region ?_
      obtain ⟨g20, H⟩ := of_need H
      refine WL.run 10 tt_ok sg0 rfl rfl ⟨⟨(nIn_ok g20).1, (nIn_ok g20).2, rfl⟩, trivial⟩ ?_
      refine WL.sect 2 9 true tt_ok sg0 rfl rfl (fun _ => trivial) ?_
      refine WL.run 1 tt_ok sg0 rfl rfl ⟨by first | exact id | exact fun h => by rw [h]; rfl | simp_all, trivial⟩ ?_
      refine WL.nil ?_
      refine QT.n ?_
      refine WC.cond rfl (fun h21 => ?_) (fun h21 => ?_)
      · replace H := of_t H h21
        refine WC.skip ?_
        refine QT.n ?_
        refine WC.seq ?_
        refine WC.block ?_
        obtain ⟨g17_5_1, H⟩ := of_need H
        obtain ⟨g17_9_1, H⟩ := of_need H
        obtain ⟨g17_12_1, H⟩ := of_need H
        refine WC.heldF [(1, .ptr 101 0), (2, .ptr 102 0), (3, .ptr 103 0), (6, .d (.int .i64 s10.1)), (7, .ptr 107 0), (8, .d (.int .i64 s18.1))] [(101, .box 26 [.d (slT enc_api_Decl a0.Decls), .d (slT enc_sl_sl_api_Need a0.Waits), .d (slT enc_api_Func a0.Funcs)]), (102, .box 26 [.d (.nils), .d (.nils), .d (.nils)]), (103, .box 26 [.own 1022, .own 1043, .own 1107]), (107, .box 37 [.d (.int .i64 ((a0.Funcs.getD s10.1.toNat default).Args)), .d (.int .i64 ((a0.Funcs.getD s10.1.toNat default).Locals)), .own 1093]), (1022, .row 56 3 (s2.2.map enc_api_Decl)), (1043, .row 47 1 (s6.2.map enc_sl_sl_api_Need)), (1093, .row 40 3 ((s18.2 ++ ([(((a0.Funcs.getD s10.1.toNat default).Code).getD s18.1.toNat default)] : List T_api_Ins)).map enc_api_Ins)), (1107, .row 37 3 (s10.2.map enc_api_Func))] (.one 0 true (.one 2 true (.one 3 true (.one 4 true (.one 5 true (.one 6 true (.one 7 true (.one 8 true (.one 9 true (.one 10 true (.fork (.one 1 false (.one 11 false (.one 12 false (.one 13 true (.one 14 false .done))))) (.one 11 false (.one 1 false (.one 12 false (.one 13 true (.one 14 false .done)))))))))))))))) [101, 102, 103, 107] [101, 102, 103] rfl (by kernel_rfl) rfl (by kernel_rfl) rfl rfl (fun _ h => h) rfl rfl rfl (fun FK NK wK K => ?_) ?_
        · refine WH.run 10 tt_ok rfl rfl rfl rfl ⟨⟨(nIn_ok g17_5_1).1, (nIn_ok g17_5_1).2, rfl⟩, ⟨(nIn_ok g17_9_1).1, (nIn_ok g17_9_1).2, rfl⟩, trivial⟩ ?_
          refine WH.fork ?_ ?_
          · refine WH.val tt_ok rfl rfl rfl rfl rfl trivial rfl rfl ?_
            refine WH.eff 203 tt_ok et_ok rfl rfl rfl rfl trivial rfl rfl ?_
            refine WH.freezeT 203 enc_api_Ins ([(((a0.Funcs.getD s10.1.toNat default).Code).getD s18.1.toNat default)] : List T_api_Ins) rfl rfl rfl rfl ?_
            refine WH.appT enc_api_Ins s18.2 ([(((a0.Funcs.getD s10.1.toNat default).Code).getD s18.1.toNat default)] : List T_api_Ins) tt_ok et_ok rfl rfl (fun _ => rfl) (fun _ => rfl) rfl rfl rfl rfl rfl (nCap_ok g17_12_1) rfl rfl rfl rfl rfl rfl rfl ?_
            refine WH.run 1 tt_ok rfl rfl rfl rfl trivial ?_
            refine WH.eff 0 tt_ok et_ok rfl rfl rfl rfl trivial rfl rfl ?_
            exact WH.nilF rfl (LessW.mk' ⟨AVle.of rfl, AVle.of rfl, AVle.of rfl, AVle.of rfl, AVle.of rfl, AVle.of rfl, trivial⟩ ⟨rfl, rfl, rfl, rfl, rfl, rfl, rfl, rfl, trivial⟩)
          · refine WH.eff 203 tt_ok et_ok rfl rfl rfl rfl trivial rfl rfl ?_
            refine WH.freezeT 203 enc_api_Ins ([(((a0.Funcs.getD s10.1.toNat default).Code).getD s18.1.toNat default)] : List T_api_Ins) rfl rfl rfl rfl ?_
            refine WH.val tt_ok rfl rfl rfl rfl rfl trivial rfl rfl ?_
            refine WH.appT enc_api_Ins s18.2 ([(((a0.Funcs.getD s10.1.toNat default).Code).getD s18.1.toNat default)] : List T_api_Ins) tt_ok et_ok rfl rfl (fun _ => rfl) (fun _ => rfl) rfl rfl rfl rfl rfl (nCap_ok g17_12_1) rfl rfl rfl rfl rfl rfl rfl ?_
            refine WH.run 1 tt_ok rfl rfl rfl rfl trivial ?_
            refine WH.eff 0 tt_ok et_ok rfl rfl rfl rfl trivial rfl rfl ?_
            exact WH.nilF rfl (LessW.mk' ⟨AVle.of rfl, AVle.of rfl, AVle.of rfl, AVle.of rfl, AVle.of rfl, AVle.of rfl, trivial⟩ ⟨rfl, rfl, rfl, rfl, rfl, rfl, rfl, rfl, trivial⟩)
        · refine QB.n (QT.n ?_)
          refine WC.region ?_
          refine WL.run 3 tt_ok sg0 rfl rfl trivial ?_
          refine WL.nil ?_
          refine QT.n ?_
          exact ⟨⟨(k19, (IntKind.i64.wrap (s18.1 + 1), s18.2 ++ ([(((a0.Funcs.getD s10.1.toNat default).Code).getD s18.1.toNat default)] : List T_api_Ins))), H⟩, Nat.lt_succ_self _, Less.mk' ⟨rfl, rfl, rfl, rfl, rfl, rfl, trivial⟩ ⟨rfl, rfl, rfl, rfl, rfl, rfl, rfl, rfl, trivial⟩⟩
      replace H := of_f H h21
      refine WC.exit ?_
      refine QT.x (QT.x (QB.hit (QT.n ?_)))
      refine WC.region ?_
      refine WL.run 2 tt_ok sg0 rfl rfl trivial ?_
      refine WL.freezeT 1093 enc_api_Ins s18.2 rfl rfl rfl rfl ?_
      refine WL.run 1 tt_ok sg0 rfl rfl trivial ?_
      refine WL.eff 209 tt_ok et_ok eg0 rfl rfl rfl trivial ?_
      refine WL.freezeT 209 enc_api_Func ([(⟨(a0.Funcs.getD s10.1.toNat default).Args, (a0.Funcs.getD s10.1.toNat default).Locals, s18.2⟩ : T_api_Func)] : List T_api_Func) rfl rfl rfl rfl ?_
      obtain ⟨g22, H⟩ := of_need H
      refine WL.appT enc_api_Func s10.2 ([(⟨(a0.Funcs.getD s10.1.toNat default).Args, (a0.Funcs.getD s10.1.toNat default).Locals, s18.2⟩ : T_api_Func)] : List T_api_Func) tt_ok et_ok rfl rfl (fun _ => rfl) (fun _ => rfl) rfl rfl rfl rfl (nCap_ok g22) rfl rfl rfl rfl rfl ?_
      refine WL.run 1 tt_ok sg0 rfl rfl trivial ?_
      refine WL.eff 0 tt_ok et_ok eg0 rfl rfl rfl trivial ?_
      refine WL.nil ?_
      refine QB.n (QT.n ?_)
      exact ⟨s10.2 ++ ([(⟨(a0.Funcs.getD s10.1.toNat default).Args, (a0.Funcs.getD s10.1.toNat default).Locals, s18.2⟩ : T_api_Func)] : List T_api_Func), H, LessW.mk' ⟨AVle.of rfl, AVle.of rfl, AVle.of rfl, AVle.of rfl, trivial⟩ ⟨rfl, rfl, rfl, rfl, rfl, rfl, trivial⟩⟩
    · rintro E m ⟨s14, H, hl⟩
      refine WC.lessW hl ?_
      replace H := (hK13 _).symm.trans H
      try dsimp only at H
      refine WC.region ?_
      refine WL.run 3 tt_ok sg0 rfl rfl trivial ?_
      refine WL.nil ?_
      refine QT.n ?_
      exact ⟨⟨(k11, (IntKind.i64.wrap (s10.1 + 1), s14)), H⟩, Nat.lt_succ_self _, Less.mk' ⟨rfl, rfl, rfl, rfl, trivial⟩ ⟨rfl, rfl, rfl, rfl, rfl, rfl, trivial⟩⟩
  replace H := of_f H h12
  refine WC.exit ?_
  refine QT.x (QT.x (QB.hit (QT.n ?_)))
  refine WC.seq ?_
  refine WC.region ?_
  refine WL.freezeT 1022 enc_api_Decl s2.2 rfl rfl rfl rfl ?_
  refine WL.freezeT 1043 enc_sl_sl_api_Need s6.2 rfl rfl rfl rfl ?_
  refine WL.freezeT 1107 enc_api_Func s10.2 rfl rfl rfl rfl ?_
  refine WL.run 1 tt_ok sg0 rfl rfl trivial ?_
  refine WL.eff 0 tt_ok et_ok eg0 rfl rfl rfl trivial ?_
  refine WL.nil ?_
  refine QT.n ?_
  refine WC.ret ?_
  cases H
  exact Ends.autoC tt_ok rfl rfl rfl trivial
theorem law10_Own_f : hasFunc Try.prog 8 Try.f8 := ⟨Try.func8, rfl, by kernel_rfl⟩

/-! ### logjam/logjamref06.Takes -/
theorem ref06_Takes_0  {r : List Int} (H : ref06_Takes = some r) : LJ.Spec Try.prog 29 [] [] (.d (slT enc_i64 r)) [] := by
  refine LJ.Spec.code Try.func29 rfl 2 rfl rfl [] rfl fun w0 F0 S0 B0 => ?_
  unfold ref06_Takes at H
  refine WC.seq ?_
  refine WC.region ?_
  refine WL.run 1 tt_ok sg0 rfl rfl trivial ?_
  refine WL.nil ?_
  refine QT.n ?_
  refine WC.seq ?_
  refine WC.region ?_
  refine WL.eff 101 tt_ok et_ok eg0 rfl rfl rfl trivial ?_
  refine WL.freezeT 101 enc_i64 ([0, 0, 1, 2, 2, 2, 2, 2, 1, 2, 2, 2, 2, 2, 2, 2, 1, 1, 0, 1, 0, 1, 0, 0, 1, 0, 0, 1, 1, 0, 1, 1, 0, 1, 0, 0, 0, 0, 0, 1, 2, 0, 1, 2, 1, 0, 1, 0, 0, 1, 0, 0] : List Int) rfl rfl rfl rfl ?_
  refine WL.run 1 tt_ok sg0 rfl rfl trivial ?_
  refine WL.nil ?_
  refine QT.n ?_
  refine WC.ret ?_
  cases H
  exact Ends.auto rfl rfl rfl trivial
theorem ref06_Takes_f : hasFunc Try.prog 29 Try.f29 := ⟨Try.func29, rfl, by kernel_rfl⟩

/-! ### logjam/logjamref06.Pops -/
theorem ref06_Pops_0 (a0 : T_api_Ins) (a1 : Int) {r : Int} (H : ref06_Pops a0 a1 = some r) : LJ.Spec Try.prog 18 [.d (.agg [.int .i64 a0.Op, .int .i64 a0.A, .int .i64 a0.B]), .d (.int .i64 a1)] [] (.d (.int .i64 r)) [] := by
  refine LJ.Spec.code Try.func18 rfl 34 rfl rfl [] rfl fun w0 F0 S0 B0 => ?_
  unfold ref06_Pops at H
  refine WC.seq ?_
  refine WC.region ?_
  refine WL.eff 102 tt_ok et_ok eg0 rfl rfl rfl trivial ?_
  refine WL.run 1 tt_ok sg0 rfl rfl trivial ?_
  refine WL.nil ?_
  refine QT.n ?_
  refine WC.seq ?_
  refine WC.seq ?_
  refine WC.region ?_
  refine WL.run 2 tt_ok sg0 rfl rfl trivial ?_
  obtain ⟨x1, hx1, H⟩ := of_bind H
  refine WL.call [] (ref06_Known_0 _ hx1) ref06_Known_f rfl rfl trivial rfl rfl rfl ?_
  refine WL.run 1 tt_ok sg0 rfl rfl trivial ?_
  refine WL.nil ?_
  refine QT.n ?_
  refine WC.cond rfl (fun h2 => ?_) (fun h2 => ?_)
  · replace H := of_t H h2
    refine WC.seq ?_
    refine WC.region ?_
    refine WL.run 1 tt_ok sg0 rfl rfl trivial ?_
    refine WL.nil ?_
    refine QT.n ?_
    refine WC.ret ?_
    refine QT.r ?_
    cases H
    exact Ends.auto rfl rfl rfl trivial
  replace H := of_f H h2
  refine WC.skip ?_
  refine QT.n ?_
  refine WC.seq ?_
  refine WC.seq ?_
  refine WC.region ?_
  refine WL.run 3 tt_ok sg0 rfl rfl trivial ?_
  refine WL.nil ?_
  refine QT.n ?_
  refine WC.cond rfl (fun h3 => ?_) (fun h3 => ?_)
  · replace H := of_t H h3
    refine WC.seq ?_
    refine WC.region ?_
    refine WL.run 2 tt_ok sg0 rfl rfl trivial ?_
    refine WL.nil ?_
    refine QT.n ?_
    refine WC.ret ?_
    refine QT.r ?_
    cases H
    exact Ends.auto rfl rfl rfl trivial
  replace H := of_f H h3
  refine WC.skip ?_
  refine QT.n ?_
  refine WC.seq ?_
  refine WC.seq ?_
  refine WC.region ?_
  refine WL.run 4 tt_ok sg0 rfl rfl trivial ?_
  refine WL.sect 3 3 false tt_ok sg0 rfl rfl (fun _ => trivial) ?_
  refine WL.run 1 tt_ok sg0 rfl rfl ⟨by first | exact id | exact fun h => by rw [h]; rfl | simp_all, trivial⟩ ?_
  refine WL.nil ?_
  refine QT.n ?_
  refine WC.cond rfl (fun h4 => ?_) (fun h4 => ?_)
  · replace H := of_t H h4
    refine WC.seq ?_
    refine WC.heldP (.one 1 true (.one 2 true (.one 5 true (.one 6 true (.one 0 false (.one 3 false (.one 4 false (.one 7 true (.one 8 true .done))))))))) [102] [102] rfl (by kernel_rfl) rfl (by kernel_rfl) rfl rfl (fun _ h => h) rfl rfl rfl (fun _ _ _ h => h) fun FK NK wK K => ?_
    refine WH.run 4 tt_ok rfl rfl rfl rfl trivial ?_
    obtain ⟨x5, hx5, H⟩ := of_bind H
    refine WH.call [] rfl (ref06_Takes_0 hx5) ref06_Takes_f rfl rfl trivial rfl rfl rfl rfl rfl ?_
    obtain ⟨g6, H⟩ := of_need H
    refine WH.val tt_ok rfl rfl rfl rfl rfl ⟨(nIn_ok g6).1, (nIn_ok g6).2, rfl⟩ rfl rfl ?_
    refine WH.val tt_ok rfl rfl rfl rfl rfl trivial rfl rfl ?_
    refine WH.run 2 tt_ok rfl rfl rfl rfl trivial ?_
    refine WH.nil rfl ?_
    refine QT.n ?_
    refine WC.ret ?_
    refine QT.r ?_
    cases H
    exact Ends.auto rfl rfl rfl trivial
  replace H := of_f H h4
  refine WC.skip ?_
  refine QT.n ?_
  refine WC.seq ?_
  refine WC.heldP (.one 1 true (.one 2 true (.one 0 false (.one 3 false (.one 4 false (.one 5 true .done)))))) [102] [102] rfl (by kernel_rfl) rfl (by kernel_rfl) rfl rfl (fun _ h => h) rfl rfl rfl (fun _ _ _ h => h) fun FK NK wK K => ?_
  refine WH.run 2 tt_ok rfl rfl rfl rfl trivial ?_
  obtain ⟨x7, hx7, H⟩ := of_bind H
  refine WH.call [] rfl (ref06_Takes_0 hx7) ref06_Takes_f rfl rfl trivial rfl rfl rfl rfl rfl ?_
  obtain ⟨g8, H⟩ := of_need H
  refine WH.val tt_ok rfl rfl rfl rfl rfl ⟨(nIn_ok g8).1, (nIn_ok g8).2, rfl⟩ rfl rfl ?_
  refine WH.val tt_ok rfl rfl rfl rfl rfl trivial rfl rfl ?_
  refine WH.run 1 tt_ok rfl rfl rfl rfl trivial ?_
  refine WH.nil rfl ?_
  refine QT.n ?_
  refine WC.ret ?_
  cases H
  exact Ends.auto rfl rfl rfl trivial
theorem ref06_Pops_f : hasFunc Try.prog 18 Try.f18 := ⟨Try.func18, rfl, by kernel_rfl⟩

/-! ### logjam/logjamref06.Lays -/
theorem ref06_Lays_0  {r : List Int} (H : ref06_Lays = some r) : LJ.Spec Try.prog 30 [] [] (.d (slT enc_i64 r)) [] := by
  refine LJ.Spec.code Try.func30 rfl 2 rfl rfl [] rfl fun w0 F0 S0 B0 => ?_
  unfold ref06_Lays at H
  refine WC.seq ?_
  refine WC.region ?_
  refine WL.run 1 tt_ok sg0 rfl rfl trivial ?_
  refine WL.nil ?_
  refine QT.n ?_
  refine WC.seq ?_
  refine WC.region ?_
  refine WL.eff 101 tt_ok et_ok eg0 rfl rfl rfl trivial ?_
  refine WL.freezeT 101 enc_i64 ([1, 1, 0, 1, 1, 1, 1, 1, 1, 1, 1, 1, 1, 1, 1, 1, 2, 0, 0, 0, 1, 0, 1, 1, 1, 0, 1, 1, 1, 1, 1, 1, 1, 1, 1, 1, 1, 1, 1, 1, 1, 1, 1, 1, 1, 2, 1, 1, 1, 1, 1, 1] : List Int) rfl rfl rfl rfl ?_
  refine WL.run 1 tt_ok sg0 rfl rfl trivial ?_
  refine WL.nil ?_
  refine QT.n ?_
  refine WC.ret ?_
  cases H
  exact Ends.auto rfl rfl rfl trivial
theorem ref06_Lays_f : hasFunc Try.prog 30 Try.f30 := ⟨Try.func30, rfl, by kernel_rfl⟩

/-! ### logjam/logjamref06.Pushes -/
theorem ref06_Pushes_0 (a0 : Int) {r : Int} (H : ref06_Pushes a0 = some r) : LJ.Spec Try.prog 19 [.d (.int .i64 a0)] [] (.d (.int .i64 r)) [] := by
  refine LJ.Spec.code Try.func19 rfl 10 rfl rfl [] rfl fun w0 F0 S0 B0 => ?_
  unfold ref06_Pushes at H
  refine WC.seq ?_
  refine WC.region ?_
  refine WL.run 1 tt_ok sg0 rfl rfl trivial ?_
  refine WL.nil ?_
  refine QT.n ?_
  refine WC.seq ?_
  refine WC.seq ?_
  refine WC.region ?_
  refine WL.run 1 tt_ok sg0 rfl rfl trivial ?_
  obtain ⟨x1, hx1, H⟩ := of_bind H
  refine WL.call [] (ref06_Known_0 _ hx1) ref06_Known_f rfl rfl trivial rfl rfl rfl ?_
  refine WL.run 1 tt_ok sg0 rfl rfl trivial ?_
  refine WL.nil ?_
  refine QT.n ?_
  refine WC.cond rfl (fun h2 => ?_) (fun h2 => ?_)
  · replace H := of_t H h2
    refine WC.seq ?_
    refine WC.region ?_
    refine WL.run 1 tt_ok sg0 rfl rfl trivial ?_
    refine WL.nil ?_
    refine QT.n ?_
    refine WC.ret ?_
    refine QT.r ?_
    cases H
    exact Ends.auto rfl rfl rfl trivial
  replace H := of_f H h2
  refine WC.skip ?_
  refine QT.n ?_
  refine WC.seq ?_
  refine WC.region ?_
  obtain ⟨x3, hx3, H⟩ := of_bind H
  refine WL.call [] (ref06_Lays_0 hx3) ref06_Lays_f rfl rfl trivial rfl rfl rfl ?_
  obtain ⟨g4, H⟩ := of_need H
  refine WL.run 4 tt_ok sg0 rfl rfl ⟨⟨(nIn_ok g4).1, (nIn_ok g4).2, rfl⟩, trivial⟩ ?_
  refine WL.nil ?_
  refine QT.n ?_
  refine WC.ret ?_
  cases H
  exact Ends.auto rfl rfl rfl trivial
theorem ref06_Pushes_f : hasFunc Try.prog 19 Try.f19 := ⟨Try.func19, rfl, by kernel_rfl⟩

/-! ### logjam/logjamref11.Behind -/
theorem ref11_Behind_0 (a0 : T_api_Program) (a1 : T_api_Ins) (a2 : Int) {r : Int} (H : ref11_Behind a0 a1 a2 = some r) : LJ.Spec Try.prog 10 [.d (.agg [slT enc_api_Decl a0.Decls, slT enc_sl_sl_api_Need a0.Waits, slT enc_api_Func a0.Funcs]), .d (.agg [.int .i64 a1.Op, .int .i64 a1.A, .int .i64 a1.B]), .d (.int .i64 a2)] [] (.d (.int .i64 r)) [] := by
  refine LJ.Spec.code Try.func10 rfl 39 rfl rfl [] rfl fun w0 F0 S0 B0 => ?_
  unfold ref11_Behind at H
  refine WC.seq ?_
  refine WC.region ?_
  refine WL.eff 103 tt_ok et_ok eg0 rfl rfl rfl trivial ?_
  refine WL.eff 104 tt_ok et_ok eg0 rfl rfl rfl trivial ?_
  refine WL.run 1 tt_ok sg0 rfl rfl trivial ?_
  refine WL.nil ?_
  refine QT.n ?_
  refine WC.seq ?_
  refine WC.region ?_
  refine WL.run 1 tt_ok sg0 rfl rfl trivial ?_
  refine WL.nil ?_
  refine QT.n ?_
  refine WC.seq ?_
  refine WC.seq ?_
  refine WC.region ?_
  refine WL.run 4 tt_ok sg0 rfl rfl trivial ?_
  refine WL.sect 6 3 true tt_ok sg0 rfl rfl (fun _ => trivial) ?_
  refine WL.run 1 tt_ok sg0 rfl rfl ⟨by first | exact id | exact fun h => by rw [h]; rfl | simp_all, trivial⟩ ?_
  refine WL.nil ?_
  refine QT.n ?_
  refine WC.cond rfl (fun h1 => ?_) (fun h1 => ?_)
  · replace H := of_t H h1
    refine WC.region ?_
    obtain ⟨g2, H⟩ := of_need H
    refine WL.run 8 tt_ok sg0 rfl rfl ⟨⟨(nIn_ok g2).1, (nIn_ok g2).2, rfl⟩, trivial⟩ ?_
    refine WL.nil ?_
    refine QT.n ?_
    refine WC.seq ?_
    refine WC.region ?_
    refine WL.run 3 tt_ok sg0 rfl rfl trivial ?_
    obtain ⟨x3, hx3, H⟩ := of_bind H
    refine WL.call [] (ref06_Pops_0 _ _ hx3) ref06_Pops_f rfl rfl trivial rfl rfl rfl ?_
    refine WL.run 2 tt_ok sg0 rfl rfl trivial ?_
    refine WL.nil ?_
    refine QT.n ?_
    refine WC.seq ?_
    refine WC.seq ?_
    refine WC.region ?_
    refine WL.run 2 tt_ok sg0 rfl rfl trivial ?_
    refine WL.nil ?_
    refine QT.n ?_
    refine WC.cond rfl (fun h4 => ?_) (fun h4 => ?_)
    · replace H := of_t H h4
      refine WC.seq ?_
      refine WC.region ?_
      refine WL.run 1 tt_ok sg0 rfl rfl trivial ?_
      refine WL.nil ?_
      refine QT.n ?_
      refine WC.ret ?_
      refine QT.r ?_
      cases H
      exact Ends.auto rfl rfl rfl trivial
    replace H := of_f H h4
    refine WC.skip ?_
    refine QT.n ?_
    refine WC.seq ?_
    refine WC.region ?_
    refine WL.run 3 tt_ok sg0 rfl rfl trivial ?_
    obtain ⟨x5, hx5, H⟩ := of_bind H
    refine WL.call [] (ref06_Pushes_0 _ hx5) ref06_Pushes_f rfl rfl trivial rfl rfl rfl ?_
    refine WL.run 2 tt_ok sg0 rfl rfl trivial ?_
    refine WL.nil ?_
    refine QT.n ?_
    refine WC.ret ?_
    cases H
    exact Ends.auto rfl rfl rfl trivial
  replace H := of_f H h1
  refine WC.skip ?_
  refine QT.n ?_
  refine WC.seq ?_
  refine WC.region ?_
  refine WL.run 3 tt_ok sg0 rfl rfl trivial ?_
  obtain ⟨x6, hx6, H⟩ := of_bind H
  refine WL.call [] (ref06_Pops_0 _ _ hx6) ref06_Pops_f rfl rfl trivial rfl rfl rfl ?_
  refine WL.run 2 tt_ok sg0 rfl rfl trivial ?_
  refine WL.nil ?_
  refine QT.n ?_
  refine WC.seq ?_
  refine WC.seq ?_
  refine WC.region ?_
  refine WL.run 2 tt_ok sg0 rfl rfl trivial ?_
  refine WL.nil ?_
  refine QT.n ?_
  refine WC.cond rfl (fun h7 => ?_) (fun h7 => ?_)
  · replace H := of_t H h7
    refine WC.seq ?_
    refine WC.region ?_
    refine WL.run 1 tt_ok sg0 rfl rfl trivial ?_
    refine WL.nil ?_
    refine QT.n ?_
    refine WC.ret ?_
    refine QT.r ?_
    cases H
    exact Ends.auto rfl rfl rfl trivial
  replace H := of_f H h7
  refine WC.skip ?_
  refine QT.n ?_
  refine WC.seq ?_
  refine WC.region ?_
  refine WL.run 3 tt_ok sg0 rfl rfl trivial ?_
  obtain ⟨x8, hx8, H⟩ := of_bind H
  refine WL.call [] (ref06_Pushes_0 _ hx8) ref06_Pushes_f rfl rfl trivial rfl rfl rfl ?_
  refine WL.run 2 tt_ok sg0 rfl rfl trivial ?_
  refine WL.nil ?_
  refine QT.n ?_
  refine WC.ret ?_
  cases H
  exact Ends.auto rfl rfl rfl trivial
theorem ref11_Behind_f : hasFunc Try.prog 10 Try.f10 := ⟨Try.func10, rfl, by kernel_rfl⟩

/-! ### logjam/logjamlaw11.DepthHolds -/
theorem law11_DepthHolds_0 (a0 : T_api_Program) (a1 : Int) (a2 : List Bool) {r : Bool} (H : law11_DepthHolds a0 a1 a2 = some r) : LJ.Spec Try.prog 3 [.d (.agg [slT enc_api_Decl a0.Decls, slT enc_sl_sl_api_Need a0.Waits, slT enc_api_Func a0.Funcs]), .d (.int .i64 a1), .d (slT enc_bool a2)] [] (.d (.bool r)) [] := by
  refine LJ.Spec.code Try.func3 rfl 120 rfl rfl [] rfl fun w0 F0 S0 B0 => ?_
  unfold law11_DepthHolds at H
  refine WC.seq ?_
  refine WC.region ?_
  refine WL.eff 103 tt_ok et_ok eg0 rfl rfl rfl trivial ?_
  refine WL.run 1 tt_ok sg0 rfl rfl trivial ?_
  refine WL.nil ?_
  refine QT.n ?_
  refine WC.seq ?_
  refine WC.seq ?_
  refine WC.region ?_
  refine WL.run 1 tt_ok sg0 rfl rfl trivial ?_
  obtain ⟨x1, hx1, H⟩ := of_bind H
  refine WL.call [] (ref10_Check_0 _ hx1) ref10_Check_f rfl rfl trivial rfl rfl rfl ?_
  refine WL.run 1 tt_ok sg0 rfl rfl trivial ?_
  refine WL.nil ?_
  refine QT.n ?_
  refine WC.cond rfl (fun h2 => ?_) (fun h2 => ?_)
  · replace H := of_t H h2
    refine WC.seq ?_
    refine WC.region ?_
    obtain ⟨x3, hx3, H⟩ := of_bind H
    refine WL.call [] (law11_lives_0 hx3) law11_lives_f rfl rfl trivial rfl rfl rfl ?_
    refine WL.run 1 tt_ok sg0 rfl rfl trivial ?_
    refine WL.nil ?_
    refine QT.n ?_
    refine WC.ret ?_
    refine QT.r ?_
    cases H
    exact Ends.auto rfl rfl rfl trivial
  replace H := of_f H h2
  refine WC.skip ?_
  refine QT.n ?_
  refine WC.seq ?_
  refine WC.region ?_
  refine WL.run 1 tt_ok sg0 rfl rfl trivial ?_
  obtain ⟨x4, hx4, H⟩ := of_bind H
  refine WL.call [] (law10_Own_0 _ hx4) law10_Own_f rfl rfl trivial rfl rfl rfl ?_
  refine WL.run 1 tt_ok sg0 rfl rfl trivial ?_
  obtain ⟨x5, hx5, H⟩ := of_bind H
  refine WL.call [] (depth_Of_0 _ _ hx5) depth_Of_f rfl rfl trivial rfl rfl rfl ?_
  refine WL.run 7 tt_ok sg0 rfl rfl trivial ?_
  refine WL.nil ?_
  refine QT.n ?_
  refine WC.seq ?_
  refine WC.seq ?_
  refine WC.region ?_
  refine WL.run 2 tt_ok sg0 rfl rfl trivial ?_
  refine WL.nil ?_
  refine QT.n ?_
  refine WC.cond rfl (fun h6 => ?_) (fun h6 => ?_)
  · replace H := of_t H h6
    refine WC.seq ?_
    refine WC.region ?_
    obtain ⟨x7, hx7, H⟩ := of_bind H
    refine WL.call [] (law11_lives_0 hx7) law11_lives_f rfl rfl trivial rfl rfl rfl ?_
    refine WL.run 1 tt_ok sg0 rfl rfl trivial ?_
    refine WL.nil ?_
    refine QT.n ?_
    refine WC.ret ?_
    refine QT.r ?_
    cases H
    exact Ends.auto rfl rfl rfl trivial
  replace H := of_f H h6
  refine WC.skip ?_
  refine QT.n ?_
  refine WC.seq ?_
  refine WC.region ?_
  obtain ⟨g8, H⟩ := of_need H
  refine WL.run 9 tt_ok sg0 rfl rfl ⟨⟨(nIn_ok g8).1, (nIn_ok g8).2, rfl⟩, trivial⟩ ?_
  refine WL.nil ?_
  refine QT.n ?_
  refine WC.seq ?_
  refine WC.seq ?_
  refine WC.region ?_
  refine WL.run 5 tt_ok sg0 rfl rfl trivial ?_
  refine WL.nil ?_
  refine QT.n ?_
  refine WC.cond rfl (fun h9 => ?_) (fun h9 => ?_)
  · replace H := of_t H h9
    refine WC.seq ?_
    refine WC.region ?_
    refine WL.run 1 tt_ok sg0 rfl rfl trivial ?_
    refine WL.nil ?_
    refine QT.n ?_
    refine WC.ret ?_
    refine QT.r ?_
    cases H
    exact Ends.auto rfl rfl rfl trivial
  replace H := of_f H h9
  refine WC.skip ?_
  refine QT.n ?_
  refine WC.seq ?_
  refine WC.seq ?_
  refine WC.region ?_
  refine WL.run 1 tt_ok sg0 rfl rfl trivial ?_
  refine WL.nil ?_
  refine QT.n ?_
  refine WC.block ?_
  refine WC.loop (ι := {x : Nat × (Int × Int × Int) // law11_DepthHolds_l11 a0 a1 a2 x5 x.1 x.2 = some r}) (fun x => [(2, .d (slT enc_bool a2)), (3, .ptr 103 0), (7, .d (slT enc_i64 x5.1)), (10, .d (slT enc_api_Ins ((a0.Funcs.getD a1.toNat default).Code))), (11, .d (.int .i64 x.1.2.1)), (12, .d (.int .i64 x.1.2.2.1)), (13, .d (.int .i64 x.1.2.2.2))]) (fun x => [(103, .box 26 [.d (slT enc_api_Decl a0.Decls), .d (slT enc_sl_sl_api_Need a0.Waits), .d (slT enc_api_Func a0.Funcs)])]) (fun x => x.1.1) ⟨(fuel, (0, 0, 0)), H⟩ (Less.mk' ⟨rfl, rfl, rfl, rfl, rfl, rfl, rfl, trivial⟩ ⟨rfl, trivial⟩) fun x => ?_
  obtain ⟨⟨k11, s10⟩, H⟩ := x
  rcases k11 with _ | k11
  · exact of_none H
  rw [law11_DepthHolds_l11] at H
  refine WC.seq ?_
  refine WC.seq ?_
  refine WC.region ?_
  refine WL.run 5 tt_ok sg0 rfl rfl trivial ?_
  refine WL.sect 2 4 true tt_ok sg0 rfl rfl (fun _ => trivial) ?_
  refine WL.run 1 tt_ok sg0 rfl rfl ⟨by first | exact id | exact fun h => by rw [h]; rfl | simp_all, trivial⟩ ?_
  refine WL.nil ?_
  refine QT.n ?_
  refine WC.cond rfl (fun h12 => ?_) (fun h12 => ?_)
  · replace H := of_t H h12
    refine WC.skip ?_
    refine QT.n ?_
    refine WC.seq ?_
    refine WC.block ?_
    refine WC.seq ?_
    refine WC.seq ?_
    refine WC.region ?_
    refine WL.run 5 tt_ok sg0 rfl rfl trivial ?_
    obtain ⟨g13, H⟩ := of_needS H
    refine WL.sect 6 4 false tt_ok sg0 rfl rfl (fun hb => ⟨⟨(nIn_ok (g13 hb)).1, (nIn_ok (g13 hb)).2, rfl⟩, trivial⟩) ?_
    refine WL.run 2 tt_ok sg0 rfl rfl ⟨by first | exact id | exact fun h => by rw [h]; rfl | simp_all, trivial⟩ ?_
    obtain ⟨x14, hx14, H⟩ := of_bind H
    refine WL.sect 4 12 false tt_ok [PSig.at' depth_Most_f ((!((iLe (((a0.Funcs.getD a1.toNat default).Code).length : Int) s10.1) || (iNe (x5.1.getD s10.1.toNat default) s10.2.1))) = true) rfl (fun hb => depth_Most_0 _ (of_t hx14 hb))] rfl rfl (fun hb => ⟨⟨hb, rfl⟩, trivial⟩) ?_
    refine WL.run 1 tt_ok sg0 rfl rfl ⟨by first | exact id | exact fun h => by rw [h]; rfl | simp_all, trivial⟩ ?_
    refine WL.nil ?_
    refine QT.n ?_
    refine WC.cond rfl (fun h15 => ?_) (fun h15 => ?_)
    · replace H := of_t H h15
      refine WC.seq ?_
      refine WC.region ?_
      refine WL.run 1 tt_ok sg0 rfl rfl trivial ?_
      refine WL.nil ?_
      refine QT.n ?_
      refine WC.ret ?_
      refine QT.r (QB.r (QT.r (QT.r (QB.r (QT.r ?_)))))
      cases H
      exact Ends.auto rfl rfl rfl trivial
    replace H := of_f H h15
    refine WC.skip ?_
    refine QT.n ?_
    refine WC.seq ?_
    refine WC.region ?_
    obtain ⟨g16, H⟩ := of_need H
    refine WL.run 4 tt_ok sg0 rfl rfl ⟨⟨(nIn_ok g16).1, (nIn_ok g16).2, rfl⟩, trivial⟩ ?_
    refine WL.alloc 114 tt_ok rfl rfl rfl ?_
    refine WL.eff 0 tt_ok et_ok eg0 rfl rfl rfl trivial ?_
    refine WL.nil ?_
    refine QT.n ?_
    refine WC.seq ?_
    refine WC.region ?_
    refine WL.run 3 tt_ok sg0 rfl rfl trivial ?_
    obtain ⟨x17, hx17, H⟩ := of_bind H
    refine WL.call [] (ref11_Behind_0 _ _ _ hx17) ref11_Behind_f rfl rfl trivial rfl rfl rfl ?_
    refine WL.run 1 tt_ok sg0 rfl rfl trivial ?_
    refine WL.nil ?_
    refine QT.n ?_
    refine WC.seq ?_
    refine WC.seq ?_
    refine WC.region ?_
    refine WL.run 3 tt_ok sg0 rfl rfl trivial ?_
    refine WL.sect 2 2 false tt_ok sg0 rfl rfl (fun _ => trivial) ?_
    refine WL.run 1 tt_ok sg0 rfl rfl ⟨by first | exact id | exact fun h => by rw [h]; rfl | simp_all, trivial⟩ ?_
    refine WL.nil ?_
    refine QT.n ?_
    refine WC.cond rfl (fun h18 => ?_) (fun h18 => ?_)
    · replace H := of_t H h18
      refine WC.seq ?_
      refine WC.region ?_
      refine WL.run 1 tt_ok sg0 rfl rfl trivial ?_
      refine WL.nil ?_
      refine QT.n ?_
      refine WC.ret ?_
      refine QT.r (QB.r (QT.r (QT.r (QB.r (QT.r ?_)))))
      cases H
      exact Ends.auto rfl rfl rfl trivial
    replace H := of_f H h18
    refine WC.skip ?_
    refine QT.n ?_
    refine WC.seq ?_
    refine WC.seq ?_
    refine WC.region ?_
    refine WL.run 3 tt_ok sg0 rfl rfl trivial ?_
    refine WL.nil ?_
    refine QT.n ?_
    refine WC.cond rfl (fun h19 => ?_) (fun h19 => ?_)
    · replace H := of_t H h19
      refine WC.seq ?_
      refine WC.region ?_
      obtain ⟨x20, hx20, H⟩ := of_bind H
      refine WL.call [] (law11_lives_0 hx20) law11_lives_f rfl rfl trivial rfl rfl rfl ?_
      refine WL.run 1 tt_ok sg0 rfl rfl trivial ?_
      refine WL.nil ?_
      refine QT.n ?_
      refine WC.ret ?_
      refine QT.r (QB.r (QT.r (QT.r (QB.r (QT.r ?_)))))
      cases H
      exact Ends.auto rfl rfl rfl trivial
    replace H := of_f H h19
    refine WC.skip ?_
    refine QT.n ?_
    refine WC.seq ?_
    refine WC.region ?_
    refine WL.run 4 tt_ok sg0 rfl rfl trivial ?_
    refine WL.sect 4 3 false tt_ok sg0 rfl rfl (fun _ => trivial) ?_
    obtain ⟨g21, H⟩ := of_needS H
    refine WL.sect 4 7 true tt_ok sg0 rfl rfl (fun hb => ⟨⟨(nIn_ok (g21 hb)).1, (nIn_ok (g21 hb)).2, rfl⟩, trivial⟩) ?_
    refine WL.sect 1 3 false tt_ok sg0 rfl rfl (fun hb => ⟨by first | exact id | exact ⟨hb, fun h => by rw [hb, h]; rfl⟩ | exact ⟨hb, id⟩ | exact fun h => by rw [hb, h]; rfl | exact fun h => by rw [h]; rfl | simp_all, trivial⟩) ?_
    refine WL.run 1 tt_ok sg0 rfl rfl ⟨by first | exact id | exact fun h => by rw [h]; rfl | simp_all, trivial⟩ ?_
    refine WL.nil ?_
    refine QT.n ?_
    refine WC.cond rfl (fun h22 => ?_) (fun h22 => ?_)
    · replace H := of_t H h22
      refine WC.region ?_
      refine WL.run 3 tt_ok sg0 rfl rfl trivial ?_
      refine WL.nil ?_
      refine QB.n (QT.n ?_)
      refine WC.region ?_
      refine WL.run 3 tt_ok sg0 rfl rfl trivial ?_
      refine WL.nil ?_
      refine QT.n ?_
      exact ⟨⟨(k11, ((((a0.Funcs.getD a1.toNat default).Code).getD s10.1.toNat default).A, x17, IntKind.i64.wrap (s10.2.2 + 1))), H⟩, Nat.lt_succ_self _, Less.mk' ⟨rfl, rfl, rfl, rfl, rfl, rfl, rfl, trivial⟩ ⟨rfl, trivial⟩⟩
    replace H := of_f H h22
    refine WC.region ?_
    refine WL.run 3 tt_ok sg0 rfl rfl trivial ?_
    refine WL.nil ?_
    refine QB.n (QT.n ?_)
    refine WC.region ?_
    refine WL.run 3 tt_ok sg0 rfl rfl trivial ?_
    refine WL.nil ?_
    refine QT.n ?_
    exact ⟨⟨(k11, (IntKind.i64.wrap (s10.1 + 1), x17, IntKind.i64.wrap (s10.2.2 + 1))), H⟩, Nat.lt_succ_self _, Less.mk' ⟨rfl, rfl, rfl, rfl, rfl, rfl, rfl, trivial⟩ ⟨rfl, trivial⟩⟩
  replace H := of_f H h12
  refine WC.exit ?_
  refine QT.x (QT.x (QB.hit (QT.n ?_)))
  refine WC.seq ?_
  refine WC.region ?_
  refine WL.run 5 tt_ok sg0 rfl rfl trivial ?_
  obtain ⟨g23, H⟩ := of_needS H
  refine WL.sect 6 4 true tt_ok sg0 rfl rfl (fun hb => ⟨⟨(nIn_ok (g23 hb)).1, (nIn_ok (g23 hb)).2, rfl⟩, trivial⟩) ?_
  refine WL.run 2 tt_ok sg0 rfl rfl ⟨by first | exact id | exact fun h => by rw [h]; rfl | simp_all, trivial⟩ ?_
  obtain ⟨x24, hx24, H⟩ := of_bind H
  refine WL.sect 1 12 true tt_ok [PSig.at' law11_lives_f (((iLt s10.1 (((a0.Funcs.getD a1.toNat default).Code).length : Int)) && (iEq (x5.1.getD s10.1.toNat default) s10.2.1)) = true) rfl (fun hb => law11_lives_0  (of_t hx24 hb))] rfl rfl (fun hb => ⟨⟨hb, rfl⟩, trivial⟩) ?_
  refine WL.run 2 tt_ok sg0 rfl rfl ⟨by first | exact id | exact fun h => by rw [h]; rfl | simp_all, trivial⟩ ?_
  refine WL.nil ?_
  refine QT.n ?_
  refine WC.ret ?_
  cases H
  exact Ends.auto rfl rfl rfl trivial
theorem law11_DepthHolds_f : hasFunc Try.prog 3 Try.f3 := ⟨Try.func3, rfl, by kernel_rfl⟩

end Go.Proofs.Ytmagenmamdgjaaa.W
