/- Each Go function comes to what its plain function gives, where that gives something. -/
import Derived.Test.YtcnfbifekdmacaaPF
import Derived.Test.YtcnfbifekdmacaaProg
import Derived.Test.YtcnfbifekdmacaaXRsl
namespace Go.Proofs.Ytcnfbifekdmacaa.W
open Go Go.RowKit LJ
set_option linter.unusedVariables false
set_option linter.unusedSimpArgs false
set_option maxRecDepth 10000
/-- The types that the walks meet. -/
def tt : List (Nat × TK) := [(3, .int .i64), (4, .bool), (5, .int .u8), (9, .str), (21, .int .i32), (22, .slice 70 3), (23, .slice 71 1), (24, .slice 58 3), (26, .struct 3 [(0, 1, true), (1, 1, true), (2, 1, true)] [.nils, .nils, .nils]), (27, .slice 3 1), (29, .struct 5 [(0, 1, true), (1, 1, true), (2, 1, true), (3, 1, true), (4, 1, true)] [.int .i64 0, .nils, .int .i64 0, .int .i64 0, .int .i64 0]), (30, .slice 45 27), (34, .arr 5 5 3 1), (36, .struct 8 [(0, 1, true), (1, 1, true), (2, 1, true), (3, 5, false)] [.int .i64 0, .int .i64 0, .int .i64 0, .int .i64 0, .int .i64 0, .int .i64 0, .int .i64 0, .int .i64 0]), (42, .arr 8 8 3 1), (43, .arr 16 16 3 1), (45, .struct 27 [(0, 1, true), (1, 1, true), (2, 1, true), (3, 8, false), (11, 16, false)] [.int .i64 0, .int .i64 0, .int .i64 0, .int .i64 0, .int .i64 0, .int .i64 0, .int .i64 0, .int .i64 0, .int .i64 0, .int .i64 0, .int .i64 0, .int .i64 0, .int .i64 0, .int .i64 0, .int .i64 0, .int .i64 0, .int .i64 0, .int .i64 0, .int .i64 0, .int .i64 0, .int .i64 0, .int .i64 0, .int .i64 0, .int .i64 0, .int .i64 0, .int .i64 0, .int .i64 0]), (55, .struct 3 [(0, 1, true), (1, 1, true), (2, 1, true)] [.int .i64 0, .int .i64 0, .int .i64 0]), (56, .slice 55 3), (58, .struct 3 [(0, 1, true), (1, 1, true), (2, 1, true)] [.int .i64 0, .int .i64 0, .nils]), (70, .struct 3 [(0, 1, true), (1, 1, true), (2, 1, true)] [.int .i64 0, .int .i64 0, .int .i64 0]), (71, .slice 92 1), (80, .slice 4 1), (87, .ptr), (92, .slice 115 3), (103, .int .u32), (108, .slice 9 1), (115, .struct 3 [(0, 1, true), (1, 1, true), (2, 1, true)] [.int .i64 0, .int .i64 0, .int .i64 0]), (119, .slice 27 1)]
theorem tt_ok : ttOK Try.prog tt = true := by kernel_rfl
/-- Elements of the slices that are appended to: cells, bytes. -/
def et : List (Nat × Nat × Nat) := [(3, 1, 8), (4, 1, 1), (9, 1, 16), (27, 1, 24), (45, 27, 216), (55, 3, 24), (58, 3, 40), (70, 3, 24), (71, 1, 24), (92, 1, 24), (115, 3, 24)]
theorem et_ok : etOK Try.prog et = true := by kernel_rfl
def sg0 : List (PSig Try.prog) := []
def eg0 : List (ESig Try.prog) := []
/-! ### logjam/logjamref03.Fits -/
theorem ref03_Fits_0 (a0 : Int) {r : Bool} (H : ref03_Fits a0 = some r) : LJ.Spec Try.prog 65 [.d (.int .i64 a0)] [] (.d (.bool r)) [] := by
  refine LJ.Spec.code Try.func65 rfl 9 rfl rfl [] rfl fun w0 F0 S0 B0 => ?_
  unfold ref03_Fits at H
  refine WC.seq ?_
  refine WC.region ?_
  refine WL.run 1 tt_ok sg0 rfl rfl trivial ?_
  refine WL.nil ?_
  refine QT.n ?_
  refine WC.seq ?_
  refine WC.region ?_
  refine WL.run 3 tt_ok sg0 rfl rfl trivial ?_
  refine WL.sect 2 2 true tt_ok sg0 rfl rfl (fun _ => trivial) ?_
  refine WL.run 2 tt_ok sg0 rfl rfl ⟨by first | exact id | exact fun h => by rw [h]; rfl | simp_all, trivial⟩ ?_
  refine WL.nil ?_
  refine QT.n ?_
  refine WC.ret ?_
  cases H
  exact Ends.auto rfl rfl rfl trivial
theorem ref03_Fits_f : hasFunc Try.prog 65 Try.f65 := ⟨Try.func65, rfl, by kernel_rfl⟩

/-! ### logjam/logjamref08.kinds -/
theorem ref08_kinds_0 (a0 : Int) {r : List Int} (H : ref08_kinds a0 = some r) : LJ.Spec Try.prog 77 [.d (.int .u8 a0)] [] (.d (slT enc_i64 r)) [] := by
  refine LJ.Spec.code Try.func77 rfl 30 rfl rfl [] rfl fun w0 F0 S0 B0 => ?_
  unfold ref08_kinds at H
  refine WC.seq ?_
  refine WC.region ?_
  refine WL.run 1 tt_ok sg0 rfl rfl trivial ?_
  refine WL.nil ?_
  refine QT.n ?_
  refine WC.seq ?_
  refine WC.region ?_
  refine WL.run 1 tt_ok sg0 rfl rfl trivial ?_
  refine WL.nil ?_
  refine QT.n ?_
  refine WC.seq ?_
  refine WC.region ?_
  refine WL.eff 106 tt_ok et_ok eg0 rfl rfl rfl trivial ?_
  refine WL.freezeT 106 enc_i64 ([1, 2] : List Int) rfl rfl rfl rfl ?_
  refine WL.eff 107 tt_ok et_ok eg0 rfl rfl rfl trivial ?_
  refine WL.freezeT 107 enc_i64 ([3] : List Int) rfl rfl rfl rfl ?_
  refine WL.eff 108 tt_ok et_ok eg0 rfl rfl rfl trivial ?_
  refine WL.freezeT 108 enc_i64 ([6] : List Int) rfl rfl rfl rfl ?_
  refine WL.eff 109 tt_ok et_ok eg0 rfl rfl rfl trivial ?_
  refine WL.freezeT 109 enc_i64 ([4] : List Int) rfl rfl rfl rfl ?_
  refine WL.eff 110 tt_ok et_ok eg0 rfl rfl rfl trivial ?_
  refine WL.freezeT 110 enc_i64 ([1] : List Int) rfl rfl rfl rfl ?_
  refine WL.eff 111 tt_ok et_ok eg0 rfl rfl rfl trivial ?_
  refine WL.freezeT 111 enc_i64 ([5] : List Int) rfl rfl rfl rfl ?_
  refine WL.eff 112 tt_ok et_ok eg0 rfl rfl rfl trivial ?_
  refine WL.freezeT 112 enc_i64 ([7] : List Int) rfl rfl rfl rfl ?_
  refine WL.eff 113 tt_ok et_ok eg0 rfl rfl rfl trivial ?_
  refine WL.freezeT 113 enc_i64 ([1, 6] : List Int) rfl rfl rfl rfl ?_
  refine WL.eff 114 tt_ok et_ok eg0 rfl rfl rfl trivial ?_
  refine WL.freezeT 114 enc_sl_i64 ([([1, 2] : List Int), ([3] : List Int), ([6] : List Int), ([4] : List Int), ([1] : List Int), ([5] : List Int), ([7] : List Int), ([1, 6] : List Int)] : List (List Int)) rfl rfl rfl rfl ?_
  refine WL.run 1 tt_ok sg0 rfl rfl trivial ?_
  refine WL.nil ?_
  refine QT.n ?_
  refine WC.seq ?_
  refine WC.seq ?_
  refine WC.region ?_
  refine WL.run 1 tt_ok sg0 rfl rfl trivial ?_
  refine WL.nil ?_
  refine QT.n ?_
  refine WC.block ?_
  refine WC.loop (ι := {x : Nat × Int // ref08_kinds_l2 a0 x.1 x.2 = some r}) (fun x => [(0, .d (.int .u8 a0)), (3, .d (.str (⟨#[117, 115, 112, 99, 109, 98, 118, 113]⟩ : ByteArray))), (4, .d (slT enc_sl_i64 ([([1, 2] : List Int), ([3] : List Int), ([6] : List Int), ([4] : List Int), ([1] : List Int), ([5] : List Int), ([7] : List Int), ([1, 6] : List Int)] : List (List Int)))), (5, .d (.int .i64 x.1.2))]) (fun x => []) (fun x => x.1.1) ⟨(fuel, 0), H⟩ (Less.mk' ⟨rfl, rfl, rfl, rfl, trivial⟩ trivial) fun x => ?_
  obtain ⟨⟨k2, s1⟩, H⟩ := x
  rcases k2 with _ | k2
  · exact of_none H
  rw [ref08_kinds_l2] at H
  refine WC.seq ?_
  refine WC.seq ?_
  refine WC.region ?_
  refine WL.run 4 tt_ok sg0 rfl rfl trivial ?_
  refine WL.nil ?_
  refine QT.n ?_
  refine WC.cond rfl (fun h3 => ?_) (fun h3 => ?_)
  · replace H := of_t H h3
    refine WC.skip ?_
    refine QT.n ?_
    refine WC.seq ?_
    refine WC.block ?_
    refine WC.seq ?_
    refine WC.region ?_
    obtain ⟨g4, H⟩ := of_need H
    refine WL.run 5 tt_ok sg0 rfl rfl ⟨(nIn_ok g4), trivial⟩ ?_
    refine WL.nil ?_
    refine QT.n ?_
    refine WC.cond rfl (fun h5 => ?_) (fun h5 => ?_)
    · replace H := of_t H h5
      refine WC.seq ?_
      refine WC.region ?_
      obtain ⟨g6, H⟩ := of_need H
      refine WL.run 5 tt_ok sg0 rfl rfl ⟨⟨(nIn_ok g6).1, (nIn_ok g6).2, rfl⟩, trivial⟩ ?_
      refine WL.nil ?_
      refine QT.n ?_
      refine WC.ret ?_
      refine QB.r (QT.r (QT.r (QB.r (QT.r ?_))))
      cases H
      exact Ends.auto rfl rfl rfl trivial
    replace H := of_f H h5
    refine WC.skip ?_
    refine QB.n (QT.n ?_)
    refine WC.region ?_
    refine WL.run 3 tt_ok sg0 rfl rfl trivial ?_
    refine WL.nil ?_
    refine QT.n ?_
    exact ⟨⟨(k2, IntKind.i64.wrap (s1 + 1)), H⟩, Nat.lt_succ_self _, Less.mk' ⟨rfl, rfl, rfl, rfl, trivial⟩ trivial⟩
  replace H := of_f H h3
  refine WC.exit ?_
  refine QT.x (QT.x (QB.hit (QT.n ?_)))
  refine WC.seq ?_
  refine WC.region ?_
  refine WL.run 1 tt_ok sg0 rfl rfl trivial ?_
  refine WL.nil ?_
  refine QT.n ?_
  refine WC.nilT 2 enc_i64 rfl ?_
  refine WC.ret ?_
  cases H
  exact Ends.auto rfl rfl rfl trivial
theorem ref08_kinds_f : hasFunc Try.prog 77 Try.f77 := ⟨Try.func77, rfl, by kernel_rfl⟩

/-! ### logjam/logjamref08.Fits -/
theorem ref08_Fits_0 (a0 : List T_api_Decl) (a1 : Int) (a2 : Int) {r : Bool} (H : ref08_Fits a0 a1 a2 = some r) : LJ.Spec Try.prog 72 [.d (slT enc_api_Decl a0), .d (.int .u8 a1), .d (.int .i64 a2)] [] (.d (.bool r)) [] := by
  refine LJ.Spec.code Try.func72 rfl 37 rfl rfl [] rfl fun w0 F0 S0 B0 => ?_
  unfold ref08_Fits at H
  refine WC.seq ?_
  refine WC.region ?_
  refine WL.run 1 tt_ok sg0 rfl rfl trivial ?_
  refine WL.nil ?_
  refine QT.n ?_
  refine WC.seq ?_
  refine WC.region ?_
  refine WL.run 1 tt_ok sg0 rfl rfl trivial ?_
  obtain ⟨x1, hx1, H⟩ := of_bind H
  refine WL.call [] (ref08_kinds_0 _ hx1) ref08_kinds_f rfl rfl trivial rfl rfl rfl ?_
  refine WL.run 1 tt_ok sg0 rfl rfl trivial ?_
  refine WL.nil ?_
  refine QT.n ?_
  refine WC.seq ?_
  refine WC.seq ?_
  refine WC.region ?_
  refine WL.run 1 tt_ok sg0 rfl rfl trivial ?_
  refine WL.nil ?_
  refine QT.n ?_
  refine WC.block ?_
  refine WC.loop (ι := {x : Nat × Int // ref08_Fits_l3 a0 a2 x1 x.1 x.2 = some r}) (fun x => [(0, .d (slT enc_api_Decl a0)), (2, .d (.int .i64 a2)), (7, .d (slT enc_i64 x1)), (8, .d (.int .i64 x.1.2))]) (fun x => []) (fun x => x.1.1) ⟨(fuel, 0), H⟩ (Less.mk' ⟨rfl, rfl, rfl, rfl, trivial⟩ trivial) fun x => ?_
  obtain ⟨⟨k3, s2⟩, H⟩ := x
  rcases k3 with _ | k3
  · exact of_none H
  rw [ref08_Fits_l3] at H
  refine WC.seq ?_
  refine WC.seq ?_
  refine WC.region ?_
  refine WL.run 5 tt_ok sg0 rfl rfl trivial ?_
  refine WL.sect 2 4 true tt_ok sg0 rfl rfl (fun _ => trivial) ?_
  refine WL.run 2 tt_ok sg0 rfl rfl ⟨by first | exact id | exact fun h => by rw [h]; rfl | simp_all, trivial⟩ ?_
  refine WL.sect 4 8 true tt_ok sg0 rfl rfl (fun _ => trivial) ?_
  refine WL.run 1 tt_ok sg0 rfl rfl ⟨by first | exact id | exact fun h => by rw [h]; rfl | simp_all, trivial⟩ ?_
  refine WL.nil ?_
  refine QT.n ?_
  refine WC.cond rfl (fun h4 => ?_) (fun h4 => ?_)
  · replace H := of_t H h4
    refine WC.skip ?_
    refine QT.n ?_
    refine WC.seq ?_
    refine WC.block ?_
    refine WC.seq ?_
    refine WC.heldP (.one 0 true (.one 1 true (.one 2 true (.one 3 true (.one 4 true (.one 5 true (.one 6 true (.one 7 true (.one 8 true (.one 9 true .done)))))))))) [] [] rfl (by kernel_rfl) rfl (by kernel_rfl) rfl rfl (fun _ h => h) rfl rfl rfl (fun _ _ _ h => h) fun FK NK wK K => ?_
    obtain ⟨g5, H⟩ := of_need H
    obtain ⟨g6, H⟩ := of_need H
    refine WH.run 10 tt_ok rfl rfl rfl rfl ⟨⟨(nIn_ok g5).1, (nIn_ok g5).2, rfl⟩, ⟨(nIn_ok g6).1, (nIn_ok g6).2, rfl⟩, trivial⟩ ?_
    refine WH.nil rfl ?_
    refine QT.n ?_
    refine WC.cond rfl (fun h7 => ?_) (fun h7 => ?_)
    · replace H := of_t H h7
      refine WC.seq ?_
      refine WC.region ?_
      refine WL.run 1 tt_ok sg0 rfl rfl trivial ?_
      refine WL.nil ?_
      refine QT.n ?_
      refine WC.ret ?_
      refine QB.r (QT.r (QT.r (QB.r (QT.r ?_))))
      cases H
      exact Ends.auto rfl rfl rfl trivial
    replace H := of_f H h7
    refine WC.skip ?_
    refine QB.n (QT.n ?_)
    refine WC.region ?_
    refine WL.run 3 tt_ok sg0 rfl rfl trivial ?_
    refine WL.nil ?_
    refine QT.n ?_
    exact ⟨⟨(k3, IntKind.i64.wrap (s2 + 1)), H⟩, Nat.lt_succ_self _, Less.mk' ⟨rfl, rfl, rfl, rfl, trivial⟩ trivial⟩
  replace H := of_f H h4
  refine WC.exit ?_
  refine QT.x (QT.x (QB.hit (QT.n ?_)))
  refine WC.seq ?_
  refine WC.region ?_
  refine WL.run 1 tt_ok sg0 rfl rfl trivial ?_
  refine WL.nil ?_
  refine QT.n ?_
  refine WC.ret ?_
  cases H
  exact Ends.auto rfl rfl rfl trivial
theorem ref08_Fits_f : hasFunc Try.prog 72 Try.f72 := ⟨Try.func72, rfl, by kernel_rfl⟩

/-! ### logjam/logjamref08.one -/
theorem ref08_one_0 (a0 : List T_api_Decl) (a1 : T_api_Decl) {r : Int} (H : ref08_one a0 a1 = some r) : LJ.Spec Try.prog 74 [.d (slT enc_api_Decl a0), .d (.agg [.int .i64 a1.Kind, .int .i64 a1.A, .int .i64 a1.B])] [] (.d (.int .i64 r)) [] := by
  refine LJ.Spec.code Try.func74 rfl 100 rfl rfl [] rfl fun w0 F0 S0 B0 => ?_
  unfold ref08_one at H
  refine WC.seq ?_
  refine WC.region ?_
  refine WL.eff 103 tt_ok et_ok eg0 rfl rfl rfl trivial ?_
  refine WL.run 1 tt_ok sg0 rfl rfl trivial ?_
  refine WL.nil ?_
  refine QT.n ?_
  refine WC.seq ?_
  refine WC.seq ?_
  refine WC.region ?_
  refine WL.run 4 tt_ok sg0 rfl rfl trivial ?_
  refine WL.sect 3 3 false tt_ok sg0 rfl rfl (fun _ => trivial) ?_
  refine WL.run 1 tt_ok sg0 rfl rfl ⟨by first | exact id | exact fun h => by rw [h]; rfl | simp_all, trivial⟩ ?_
  refine WL.nil ?_
  refine QT.n ?_
  refine WC.cond rfl (fun h1 => ?_) (fun h1 => ?_)
  · replace H := of_t H h1
    refine WC.seq ?_
    refine WC.region ?_
    refine WL.run 1 tt_ok sg0 rfl rfl trivial ?_
    refine WL.nil ?_
    refine QT.n ?_
    refine WC.ret ?_
    refine QT.r ?_
    cases H
    exact Ends.auto rfl rfl rfl trivial
  replace H := of_f H h1
  refine WC.skip ?_
  refine QT.n ?_
  refine WC.seq ?_
  refine WC.seq ?_
  refine WC.region ?_
  refine WL.run 4 tt_ok sg0 rfl rfl trivial ?_
  refine WL.sect 4 3 true tt_ok sg0 rfl rfl (fun _ => trivial) ?_
  refine WL.sect 3 7 false tt_ok sg0 rfl rfl (fun _ => trivial) ?_
  refine WL.sect 2 3 true tt_ok sg0 rfl rfl (fun hb => ⟨by first | exact id | exact ⟨hb, fun h => by rw [hb, h]; rfl⟩ | exact ⟨hb, id⟩ | exact fun h => by rw [hb, h]; rfl | exact fun h => by rw [h]; rfl | simp_all, trivial⟩) ?_
  refine WL.sect 3 12 false tt_ok sg0 rfl rfl (fun _ => trivial) ?_
  refine WL.sect 2 3 true tt_ok sg0 rfl rfl (fun hb => ⟨by first | exact id | exact ⟨hb, fun h => by rw [hb, h]; rfl⟩ | exact ⟨hb, id⟩ | exact fun h => by rw [hb, h]; rfl | exact fun h => by rw [h]; rfl | simp_all, trivial⟩) ?_
  refine WL.sect 5 17 false tt_ok sg0 rfl rfl (fun _ => trivial) ?_
  refine WL.sect 1 3 true tt_ok sg0 rfl rfl (fun hb => ⟨by first | exact id | exact ⟨hb, fun h => by rw [hb, h]; rfl⟩ | exact ⟨hb, id⟩ | exact fun h => by rw [hb, h]; rfl | exact fun h => by rw [h]; rfl | simp_all, trivial⟩) ?_
  refine WL.run 1 tt_ok sg0 rfl rfl ⟨by first | exact id | exact fun h => by rw [h]; rfl | simp_all, trivial⟩ ?_
  refine WL.nil ?_
  refine QT.n ?_
  refine WC.cond rfl (fun h2 => ?_) (fun h2 => ?_)
  · replace H := of_t H h2
    refine WC.seq ?_
    refine WC.region ?_
    refine WL.run 1 tt_ok sg0 rfl rfl trivial ?_
    refine WL.nil ?_
    refine QT.n ?_
    refine WC.ret ?_
    refine QT.r ?_
    cases H
    exact Ends.auto rfl rfl rfl trivial
  replace H := of_f H h2
  refine WC.skip ?_
  refine QT.n ?_
  refine WC.seq ?_
  refine WC.seq ?_
  refine WC.region ?_
  refine WL.run 4 tt_ok sg0 rfl rfl trivial ?_
  refine WL.sect 4 3 true tt_ok sg0 rfl rfl (fun _ => trivial) ?_
  refine WL.sect 3 7 false tt_ok sg0 rfl rfl (fun _ => trivial) ?_
  refine WL.sect 1 3 true tt_ok sg0 rfl rfl (fun hb => ⟨by first | exact id | exact ⟨hb, fun h => by rw [hb, h]; rfl⟩ | exact ⟨hb, id⟩ | exact fun h => by rw [hb, h]; rfl | exact fun h => by rw [h]; rfl | simp_all, trivial⟩) ?_
  refine WL.run 1 tt_ok sg0 rfl rfl ⟨by first | exact id | exact fun h => by rw [h]; rfl | simp_all, trivial⟩ ?_
  refine WL.nil ?_
  refine QT.n ?_
  refine WC.cond rfl (fun h3 => ?_) (fun h3 => ?_)
  · replace H := of_t H h3
    refine WC.seq ?_
    refine WC.region ?_
    refine WL.run 1 tt_ok sg0 rfl rfl trivial ?_
    refine WL.nil ?_
    refine QT.n ?_
    refine WC.ret ?_
    refine QT.r ?_
    cases H
    exact Ends.auto rfl rfl rfl trivial
  replace H := of_f H h3
  refine WC.skip ?_
  refine QT.n ?_
  refine WC.seq ?_
  refine WC.seq ?_
  refine WC.region ?_
  refine WL.run 4 tt_ok sg0 rfl rfl trivial ?_
  obtain ⟨x4, hx4, H⟩ := of_bind H
  refine WL.sect 5 3 true tt_ok [PSig.at' ref03_Fits_f ((iEq a1.Kind 7) = true) rfl (fun hb => ref03_Fits_0 _ (of_t hx4 hb))] rfl rfl (fun hb => ⟨⟨hb, rfl⟩, trivial⟩) ?_
  obtain ⟨x5, hx5, H⟩ := of_bind H
  refine WL.sect 5 8 false tt_ok [PSig.at' ref08_Fits_f (((iEq a1.Kind 7) && !(!x4)) = true) rfl (fun hb => ref08_Fits_0 _ _ _ (of_t hx5 hb))] rfl rfl (fun hb => ⟨⟨hb, rfl⟩, trivial⟩) ?_
  refine WL.sect 1 3 true tt_ok sg0 rfl rfl (fun hb => ⟨by first | exact id | exact ⟨hb, fun h => by rw [hb, h]; rfl⟩ | exact ⟨hb, id⟩ | exact fun h => by rw [hb, h]; rfl | exact fun h => by rw [h]; rfl | simp_all, trivial⟩) ?_
  refine WL.run 1 tt_ok sg0 rfl rfl ⟨by first | exact id | exact fun h => by rw [h]; rfl | simp_all, trivial⟩ ?_
  refine WL.nil ?_
  refine QT.n ?_
  refine WC.cond rfl (fun h6 => ?_) (fun h6 => ?_)
  · replace H := of_t H h6
    refine WC.seq ?_
    refine WC.region ?_
    refine WL.run 1 tt_ok sg0 rfl rfl trivial ?_
    refine WL.nil ?_
    refine QT.n ?_
    refine WC.ret ?_
    refine QT.r ?_
    cases H
    exact Ends.auto rfl rfl rfl trivial
  replace H := of_f H h6
  refine WC.skip ?_
  refine QT.n ?_
  refine WC.seq ?_
  refine WC.seq ?_
  refine WC.region ?_
  refine WL.run 4 tt_ok sg0 rfl rfl trivial ?_
  refine WL.sect 3 3 true tt_ok sg0 rfl rfl (fun _ => trivial) ?_
  refine WL.run 2 tt_ok sg0 rfl rfl ⟨by first | exact id | exact fun h => by rw [h]; rfl | simp_all, trivial⟩ ?_
  refine WL.sect 3 8 true tt_ok sg0 rfl rfl (fun _ => trivial) ?_
  refine WL.run 2 tt_ok sg0 rfl rfl ⟨by first | exact id | exact fun h => by rw [h]; rfl | simp_all, trivial⟩ ?_
  refine WL.sect 4 13 false tt_ok sg0 rfl rfl (fun _ => trivial) ?_
  refine WL.sect 3 17 true tt_ok sg0 rfl rfl (fun _ => trivial) ?_
  refine WL.sect 2 13 false tt_ok sg0 rfl rfl (fun hb => ⟨by first | exact id | exact ⟨hb, fun h => by rw [hb, h]; rfl⟩ | exact ⟨hb, id⟩ | exact fun h => by rw [hb, h]; rfl | exact fun h => by rw [h]; rfl | simp_all, trivial⟩) ?_
  refine WL.sect 3 22 true tt_ok sg0 rfl rfl (fun _ => trivial) ?_
  refine WL.sect 2 13 false tt_ok sg0 rfl rfl (fun hb => ⟨by first | exact id | exact ⟨hb, fun h => by rw [hb, h]; rfl⟩ | exact ⟨hb, id⟩ | exact fun h => by rw [hb, h]; rfl | exact fun h => by rw [h]; rfl | simp_all, trivial⟩) ?_
  refine WL.sect 3 27 true tt_ok sg0 rfl rfl (fun _ => trivial) ?_
  refine WL.sect 1 13 false tt_ok sg0 rfl rfl (fun hb => ⟨by first | exact id | exact ⟨hb, fun h => by rw [hb, h]; rfl⟩ | exact ⟨hb, id⟩ | exact fun h => by rw [hb, h]; rfl | exact fun h => by rw [h]; rfl | simp_all, trivial⟩) ?_
  refine WL.run 1 tt_ok sg0 rfl rfl ⟨by first | exact id | exact fun h => by rw [h]; rfl | simp_all, trivial⟩ ?_
  refine WL.nil ?_
  refine QT.n ?_
  refine WC.cond rfl (fun h7 => ?_) (fun h7 => ?_)
  · replace H := of_t H h7
    refine WC.seq ?_
    refine WC.region ?_
    refine WL.run 1 tt_ok sg0 rfl rfl trivial ?_
    refine WL.nil ?_
    refine QT.n ?_
    refine WC.ret ?_
    refine QT.r ?_
    cases H
    exact Ends.auto rfl rfl rfl trivial
  replace H := of_f H h7
  refine WC.skip ?_
  refine QT.n ?_
  refine WC.seq ?_
  refine WC.region ?_
  refine WL.run 1 tt_ok sg0 rfl rfl trivial ?_
  refine WL.nil ?_
  refine QT.n ?_
  refine WC.ret ?_
  cases H
  exact Ends.auto rfl rfl rfl trivial
theorem ref08_one_f : hasFunc Try.prog 74 Try.f74 := ⟨Try.func74, rfl, by kernel_rfl⟩

/-! ### logjam/logjamref08.Check -/
theorem ref08_Check_0 (a0 : List T_api_Decl) {r : Int × Int} (H : ref08_Check a0 = some r) : LJ.Spec Try.prog 67 [.d (slT enc_api_Decl a0)] [] (.tup [.d (.int .i64 r.1), .d (.int .i64 r.2)]) [] := by
  refine LJ.Spec.code Try.func67 rfl 25 rfl rfl [] rfl fun w0 F0 S0 B0 => ?_
  unfold ref08_Check at H
  refine WC.seq ?_
  refine WC.region ?_
  refine WL.run 2 tt_ok sg0 rfl rfl trivial ?_
  refine WL.nil ?_
  refine QT.n ?_
  refine WC.seq ?_
  refine WC.seq ?_
  refine WC.region ?_
  refine WL.run 3 tt_ok sg0 rfl rfl trivial ?_
  refine WL.nil ?_
  refine QT.n ?_
  refine WC.cond rfl (fun h1 => ?_) (fun h1 => ?_)
  · replace H := of_t H h1
    refine WC.seq ?_
    refine WC.region ?_
    refine WL.run 2 tt_ok sg0 rfl rfl trivial ?_
    refine WL.nil ?_
    refine QT.n ?_
    refine WC.ret ?_
    refine QT.r ?_
    cases H
    exact Ends.auto rfl rfl rfl trivial
  replace H := of_f H h1
  refine WC.skip ?_
  refine QT.n ?_
  refine WC.seq ?_
  refine WC.seq ?_
  refine WC.region ?_
  refine WL.run 1 tt_ok sg0 rfl rfl trivial ?_
  refine WL.nil ?_
  refine QT.n ?_
  refine WC.block ?_
  refine WC.loop (ι := {x : Nat × Int // ref08_Check_l3 a0 x.1 x.2 = some r}) (fun x => [(0, .d (slT enc_api_Decl a0)), (4, .d (.int .i64 x.1.2))]) (fun x => []) (fun x => x.1.1) ⟨(fuel, 0), H⟩ (Less.mk' ⟨rfl, rfl, trivial⟩ trivial) fun x => ?_
  obtain ⟨⟨k3, s2⟩, H⟩ := x
  rcases k3 with _ | k3
  · exact of_none H
  rw [ref08_Check_l3] at H
  refine WC.seq ?_
  refine WC.seq ?_
  refine WC.region ?_
  refine WL.run 4 tt_ok sg0 rfl rfl trivial ?_
  refine WL.nil ?_
  refine QT.n ?_
  refine WC.cond rfl (fun h4 => ?_) (fun h4 => ?_)
  · replace H := of_t H h4
    refine WC.skip ?_
    refine QT.n ?_
    refine WC.seq ?_
    refine WC.block ?_
    refine WC.seq ?_
    refine WC.region ?_
    obtain ⟨g5, H⟩ := of_need H
    refine WL.run 5 tt_ok sg0 rfl rfl ⟨⟨(nIn_ok g5).1, (nIn_ok g5).2, rfl⟩, trivial⟩ ?_
    obtain ⟨x6, hx6, H⟩ := of_bind H
    refine WL.call [] (ref08_one_0 _ _ hx6) ref08_one_f rfl rfl trivial rfl rfl rfl ?_
    refine WL.run 1 tt_ok sg0 rfl rfl trivial ?_
    refine WL.nil ?_
    refine QT.n ?_
    refine WC.seq ?_
    refine WC.region ?_
    refine WL.run 2 tt_ok sg0 rfl rfl trivial ?_
    refine WL.nil ?_
    refine QT.n ?_
    refine WC.cond rfl (fun h7 => ?_) (fun h7 => ?_)
    · replace H := of_t H h7
      refine WC.seq ?_
      refine WC.region ?_
      refine WL.run 4 tt_ok sg0 rfl rfl trivial ?_
      refine WL.nil ?_
      refine QT.n ?_
      refine WC.ret ?_
      refine QB.r (QT.r (QT.r (QB.r (QT.r ?_))))
      cases H
      exact Ends.auto rfl rfl rfl trivial
    replace H := of_f H h7
    refine WC.skip ?_
    refine QB.n (QT.n ?_)
    refine WC.region ?_
    refine WL.run 3 tt_ok sg0 rfl rfl trivial ?_
    refine WL.nil ?_
    refine QT.n ?_
    exact ⟨⟨(k3, IntKind.i64.wrap (s2 + 1)), H⟩, Nat.lt_succ_self _, Less.mk' ⟨rfl, rfl, trivial⟩ trivial⟩
  replace H := of_f H h4
  refine WC.exit ?_
  refine QT.x (QT.x (QB.hit (QT.n ?_)))
  refine WC.seq ?_
  refine WC.region ?_
  refine WL.run 2 tt_ok sg0 rfl rfl trivial ?_
  refine WL.nil ?_
  refine QT.n ?_
  refine WC.ret ?_
  cases H
  exact Ends.auto rfl rfl rfl trivial
theorem ref08_Check_f : hasFunc Try.prog 67 Try.f67 := ⟨Try.func67, rfl, by kernel_rfl⟩

/-! ### logjam/logjamref09.one -/
theorem ref09_one_0 (a0 : List T_api_Decl) (a1 : T_api_Need) {r : Int} (H : ref09_one a0 a1 = some r) : LJ.Spec Try.prog 75 [.d (slT enc_api_Decl a0), .d (.agg [.int .i64 a1.Kind, .int .i64 a1.Obj, .int .i64 a1.N])] [] (.d (.int .i64 r)) [] := by
  refine LJ.Spec.code Try.func75 rfl 69 rfl rfl [] rfl fun w0 F0 S0 B0 => ?_
  unfold ref09_one at H
  refine WC.seq ?_
  refine WC.region ?_
  refine WL.eff 103 tt_ok et_ok eg0 rfl rfl rfl trivial ?_
  refine WL.run 1 tt_ok sg0 rfl rfl trivial ?_
  refine WL.nil ?_
  refine QT.n ?_
  refine WC.seq ?_
  refine WC.seq ?_
  refine WC.region ?_
  refine WL.run 4 tt_ok sg0 rfl rfl trivial ?_
  refine WL.sect 3 3 false tt_ok sg0 rfl rfl (fun _ => trivial) ?_
  refine WL.run 1 tt_ok sg0 rfl rfl ⟨by first | exact id | exact fun h => by rw [h]; rfl | simp_all, trivial⟩ ?_
  refine WL.nil ?_
  refine QT.n ?_
  refine WC.cond rfl (fun h1 => ?_) (fun h1 => ?_)
  · replace H := of_t H h1
    refine WC.seq ?_
    refine WC.region ?_
    refine WL.run 1 tt_ok sg0 rfl rfl trivial ?_
    refine WL.nil ?_
    refine QT.n ?_
    refine WC.ret ?_
    refine QT.r ?_
    cases H
    exact Ends.auto rfl rfl rfl trivial
  replace H := of_f H h1
  refine WC.skip ?_
  refine QT.n ?_
  refine WC.seq ?_
  refine WC.region ?_
  refine WL.eff 116 tt_ok et_ok eg0 rfl rfl rfl trivial ?_
  refine WL.freezeT 116 enc_i64 ([0, 1, 2, 2, 3, 6] : List Int) rfl rfl rfl rfl ?_
  refine WL.run 1 tt_ok sg0 rfl rfl trivial ?_
  refine WL.nil ?_
  refine QT.n ?_
  refine WC.seq ?_
  refine WC.seq ?_
  refine WC.heldP (.one 0 true (.one 1 true (.one 2 true (.one 3 true (.one 4 true (.one 5 true (.one 6 true (.one 7 true (.one 8 true (.one 9 true (.one 10 true (.one 11 true (.one 12 true (.one 13 true (.one 14 true (.one 15 true (.one 16 true (.one 17 true (.one 18 true (.one 19 true (.one 20 true (.one 21 true (.one 22 true (.one 23 true .done)))))))))))))))))))))))) [103] [103] rfl (by kernel_rfl) rfl (by kernel_rfl) rfl rfl (fun _ h => h) rfl rfl rfl (fun _ _ _ h => h) fun FK NK wK K => ?_
  refine WH.run 4 tt_ok rfl rfl rfl rfl trivial ?_
  refine WH.sect 5 3 false tt_ok rfl rfl rfl rfl (fun _ => trivial) ?_
  refine WH.run 2 tt_ok rfl rfl rfl rfl ⟨by first | exact id | exact fun h => by rw [h]; rfl | simp_all, trivial⟩ ?_
  obtain ⟨g2, H⟩ := of_needS H
  obtain ⟨g3, H⟩ := of_needS H
  refine WH.sect 12 10 false tt_ok rfl rfl rfl rfl (fun hb => ⟨⟨(nIn_ok (g2 hb)).1, (nIn_ok (g2 hb)).2, rfl⟩, ⟨(nIn_ok (g3 hb)).1, (nIn_ok (g3 hb)).2, rfl⟩, trivial⟩) ?_
  refine WH.run 1 tt_ok rfl rfl rfl rfl ⟨by first | exact id | exact fun h => by rw [h]; rfl | simp_all, trivial⟩ ?_
  refine WH.nil rfl ?_
  refine QT.n ?_
  refine WC.cond rfl (fun h4 => ?_) (fun h4 => ?_)
  · replace H := of_t H h4
    refine WC.seq ?_
    refine WC.region ?_
    refine WL.run 1 tt_ok sg0 rfl rfl trivial ?_
    refine WL.nil ?_
    refine QT.n ?_
    refine WC.ret ?_
    refine QT.r ?_
    cases H
    exact Ends.auto rfl rfl rfl trivial
  replace H := of_f H h4
  refine WC.skip ?_
  refine QT.n ?_
  refine WC.seq ?_
  refine WC.region ?_
  refine WL.run 2 tt_ok sg0 rfl rfl trivial ?_
  refine WL.nil ?_
  refine QT.n ?_
  refine WC.seq ?_
  refine WC.seq ?_
  refine WC.region ?_
  refine WL.run 3 tt_ok sg0 rfl rfl trivial ?_
  refine WL.nil ?_
  refine QT.n ?_
  refine WC.cond rfl (fun h5 => ?_) (fun h5 => ?_)
  · replace H := of_t H h5
    refine WC.heldP (.one 0 true (.one 1 true (.one 2 true (.one 3 true (.one 4 true (.one 5 true (.one 6 true (.one 7 true .done)))))))) [103] [103] rfl (by kernel_rfl) rfl (by kernel_rfl) rfl rfl (fun _ h => h) rfl rfl rfl (fun _ _ _ h => h) fun FK NK wK K => ?_
    obtain ⟨g6, H⟩ := of_need H
    refine WH.run 8 tt_ok rfl rfl rfl rfl ⟨⟨(nIn_ok g6).1, (nIn_ok g6).2, rfl⟩, trivial⟩ ?_
    refine WH.nil rfl ?_
    refine QT.n ?_
    refine WC.seq ?_
    refine WC.seq ?_
    refine WC.region ?_
    refine WL.run 3 tt_ok sg0 rfl rfl trivial ?_
    refine WL.nil ?_
    refine QT.n ?_
    refine WC.cond rfl (fun h7 => ?_) (fun h7 => ?_)
    · replace H := of_t H h7
      refine WC.heldP (.one 0 true (.one 1 true (.one 2 true (.one 3 true (.one 4 true (.one 5 true (.one 6 true (.one 7 true .done)))))))) [103] [103] rfl (by kernel_rfl) rfl (by kernel_rfl) rfl rfl (fun _ h => h) rfl rfl rfl (fun _ _ _ h => h) fun FK NK wK K => ?_
      obtain ⟨g8, H⟩ := of_need H
      refine WH.run 8 tt_ok rfl rfl rfl rfl ⟨⟨(nIn_ok g8).1, (nIn_ok g8).2, rfl⟩, trivial⟩ ?_
      refine WH.nil rfl ?_
      refine QT.n ?_
      refine WC.seq ?_
      refine WC.seq ?_
      refine WC.region ?_
      refine WL.run 5 tt_ok sg0 rfl rfl trivial ?_
      refine WL.sect 4 4 false tt_ok sg0 rfl rfl (fun _ => trivial) ?_
      refine WL.run 1 tt_ok sg0 rfl rfl ⟨by first | exact id | exact fun h => by rw [h]; rfl | simp_all, trivial⟩ ?_
      refine WL.nil ?_
      refine QT.n ?_
      refine WC.cond rfl (fun h9 => ?_) (fun h9 => ?_)
      · replace H := of_t H h9
        refine WC.seq ?_
        refine WC.region ?_
        refine WL.run 1 tt_ok sg0 rfl rfl trivial ?_
        refine WL.nil ?_
        refine QT.n ?_
        refine WC.ret ?_
        refine QT.r ?_
        cases H
        exact Ends.auto rfl rfl rfl trivial
      replace H := of_f H h9
      refine WC.skip ?_
      refine QT.n ?_
      refine WC.seq ?_
      refine WC.region ?_
      refine WL.run 1 tt_ok sg0 rfl rfl trivial ?_
      refine WL.nil ?_
      refine QT.n ?_
      refine WC.ret ?_
      cases H
      exact Ends.auto rfl rfl rfl trivial
    replace H := of_f H h7
    refine WC.skip ?_
    refine QT.n ?_
    refine WC.seq ?_
    refine WC.seq ?_
    refine WC.region ?_
    refine WL.run 5 tt_ok sg0 rfl rfl trivial ?_
    refine WL.sect 4 4 false tt_ok sg0 rfl rfl (fun _ => trivial) ?_
    refine WL.run 1 tt_ok sg0 rfl rfl ⟨by first | exact id | exact fun h => by rw [h]; rfl | simp_all, trivial⟩ ?_
    refine WL.nil ?_
    refine QT.n ?_
    refine WC.cond rfl (fun h10 => ?_) (fun h10 => ?_)
    · replace H := of_t H h10
      refine WC.seq ?_
      refine WC.region ?_
      refine WL.run 1 tt_ok sg0 rfl rfl trivial ?_
      refine WL.nil ?_
      refine QT.n ?_
      refine WC.ret ?_
      refine QT.r ?_
      cases H
      exact Ends.auto rfl rfl rfl trivial
    replace H := of_f H h10
    refine WC.skip ?_
    refine QT.n ?_
    refine WC.seq ?_
    refine WC.region ?_
    refine WL.run 1 tt_ok sg0 rfl rfl trivial ?_
    refine WL.nil ?_
    refine QT.n ?_
    refine WC.ret ?_
    cases H
    exact Ends.auto rfl rfl rfl trivial
  replace H := of_f H h5
  refine WC.skip ?_
  refine QT.n ?_
  refine WC.seq ?_
  refine WC.seq ?_
  refine WC.region ?_
  refine WL.run 3 tt_ok sg0 rfl rfl trivial ?_
  refine WL.nil ?_
  refine QT.n ?_
  refine WC.cond rfl (fun h11 => ?_) (fun h11 => ?_)
  · replace H := of_t H h11
    refine WC.heldP (.one 0 true (.one 1 true (.one 2 true (.one 3 true (.one 4 true (.one 5 true (.one 6 true (.one 7 true .done)))))))) [103] [103] rfl (by kernel_rfl) rfl (by kernel_rfl) rfl rfl (fun _ h => h) rfl rfl rfl (fun _ _ _ h => h) fun FK NK wK K => ?_
    obtain ⟨g12, H⟩ := of_need H
    refine WH.run 8 tt_ok rfl rfl rfl rfl ⟨⟨(nIn_ok g12).1, (nIn_ok g12).2, rfl⟩, trivial⟩ ?_
    refine WH.nil rfl ?_
    refine QT.n ?_
    refine WC.seq ?_
    refine WC.seq ?_
    refine WC.region ?_
    refine WL.run 5 tt_ok sg0 rfl rfl trivial ?_
    refine WL.sect 4 4 false tt_ok sg0 rfl rfl (fun _ => trivial) ?_
    refine WL.run 1 tt_ok sg0 rfl rfl ⟨by first | exact id | exact fun h => by rw [h]; rfl | simp_all, trivial⟩ ?_
    refine WL.nil ?_
    refine QT.n ?_
    refine WC.cond rfl (fun h13 => ?_) (fun h13 => ?_)
    · replace H := of_t H h13
      refine WC.seq ?_
      refine WC.region ?_
      refine WL.run 1 tt_ok sg0 rfl rfl trivial ?_
      refine WL.nil ?_
      refine QT.n ?_
      refine WC.ret ?_
      refine QT.r ?_
      cases H
      exact Ends.auto rfl rfl rfl trivial
    replace H := of_f H h13
    refine WC.skip ?_
    refine QT.n ?_
    refine WC.seq ?_
    refine WC.region ?_
    refine WL.run 1 tt_ok sg0 rfl rfl trivial ?_
    refine WL.nil ?_
    refine QT.n ?_
    refine WC.ret ?_
    cases H
    exact Ends.auto rfl rfl rfl trivial
  replace H := of_f H h11
  refine WC.skip ?_
  refine QT.n ?_
  refine WC.seq ?_
  refine WC.seq ?_
  refine WC.region ?_
  refine WL.run 5 tt_ok sg0 rfl rfl trivial ?_
  refine WL.sect 4 4 false tt_ok sg0 rfl rfl (fun _ => trivial) ?_
  refine WL.run 1 tt_ok sg0 rfl rfl ⟨by first | exact id | exact fun h => by rw [h]; rfl | simp_all, trivial⟩ ?_
  refine WL.nil ?_
  refine QT.n ?_
  refine WC.cond rfl (fun h14 => ?_) (fun h14 => ?_)
  · replace H := of_t H h14
    refine WC.seq ?_
    refine WC.region ?_
    refine WL.run 1 tt_ok sg0 rfl rfl trivial ?_
    refine WL.nil ?_
    refine QT.n ?_
    refine WC.ret ?_
    refine QT.r ?_
    cases H
    exact Ends.auto rfl rfl rfl trivial
  replace H := of_f H h14
  refine WC.skip ?_
  refine QT.n ?_
  refine WC.seq ?_
  refine WC.region ?_
  refine WL.run 1 tt_ok sg0 rfl rfl trivial ?_
  refine WL.nil ?_
  refine QT.n ?_
  refine WC.ret ?_
  cases H
  exact Ends.auto rfl rfl rfl trivial
theorem ref09_one_f : hasFunc Try.prog 75 Try.f75 := ⟨Try.func75, rfl, by kernel_rfl⟩

/-! ### logjam/logjamref09.Check -/
theorem ref09_Check_0 (a0 : List T_api_Decl) (a1 : List (List T_api_Need)) {r : Int} (H : ref09_Check a0 a1 = some r) : LJ.Spec Try.prog 68 [.d (slT enc_api_Decl a0), .d (slT enc_sl_api_Need a1)] [] (.d (.int .i64 r)) [] := by
  refine LJ.Spec.code Try.func68 rfl 86 rfl rfl [] rfl fun w0 F0 S0 B0 => ?_
  unfold ref09_Check at H
  refine WC.seq ?_
  refine WC.region ?_
  refine WL.run 1 tt_ok sg0 rfl rfl trivial ?_
  refine WL.nil ?_
  refine QT.n ?_
  refine WC.seq ?_
  refine WC.seq ?_
  refine WC.region ?_
  refine WL.run 3 tt_ok sg0 rfl rfl trivial ?_
  refine WL.nil ?_
  refine QT.n ?_
  refine WC.cond rfl (fun h1 => ?_) (fun h1 => ?_)
  · replace H := of_t H h1
    refine WC.seq ?_
    refine WC.region ?_
    refine WL.run 1 tt_ok sg0 rfl rfl trivial ?_
    refine WL.nil ?_
    refine QT.n ?_
    refine WC.ret ?_
    refine QT.r ?_
    cases H
    exact Ends.auto rfl rfl rfl trivial
  replace H := of_f H h1
  refine WC.skip ?_
  refine QT.n ?_
  refine WC.seq ?_
  refine WC.seq ?_
  refine WC.region ?_
  refine WL.run 3 tt_ok sg0 rfl rfl trivial ?_
  refine WL.nil ?_
  refine QT.n ?_
  refine WC.cond rfl (fun h2 => ?_) (fun h2 => ?_)
  · replace H := of_t H h2
    refine WC.seq ?_
    refine WC.region ?_
    refine WL.run 1 tt_ok sg0 rfl rfl trivial ?_
    refine WL.nil ?_
    refine QT.n ?_
    refine WC.ret ?_
    refine QT.r ?_
    cases H
    exact Ends.auto rfl rfl rfl trivial
  replace H := of_f H h2
  refine WC.skip ?_
  refine QT.n ?_
  refine WC.seq ?_
  refine WC.seq ?_
  refine WC.region ?_
  refine WL.run 1 tt_ok sg0 rfl rfl trivial ?_
  refine WL.nil ?_
  refine QT.n ?_
  refine WC.block ?_
  refine WC.loop (ι := {x : Nat × Int // ref09_Check_l4 a0 a1 x.1 x.2 = some r}) (fun x => [(0, .d (slT enc_api_Decl a0)), (1, .d (slT enc_sl_api_Need a1)), (5, .d (.int .i64 x.1.2))]) (fun x => []) (fun x => x.1.1) ⟨(fuel, 0), H⟩ (Less.mk' ⟨rfl, rfl, rfl, trivial⟩ trivial) fun x => ?_
  obtain ⟨⟨k4, s3⟩, H⟩ := x
  rcases k4 with _ | k4
  · exact of_none H
  rw [ref09_Check_l4] at H
  refine WC.seq ?_
  refine WC.seq ?_
  refine WC.region ?_
  refine WL.run 4 tt_ok sg0 rfl rfl trivial ?_
  refine WL.nil ?_
  refine QT.n ?_
  refine WC.cond rfl (fun h5 => ?_) (fun h5 => ?_)
  · replace H := of_t H h5
    refine WC.skip ?_
    refine QT.n ?_
    obtain ⟨K6, hK6, H⟩ := of_withK H
    refine WC.cut (fun E m => ∃ s7 : Unit, K6 s7 = some r ∧ LessW E m [(0, .d (slT enc_api_Decl a0)), (1, .d (slT enc_sl_api_Need a1)), (5, .d (.int .i64 s3))] []) ?_ ?_
    · refine WC.block ?_
      refine WC.seq ?_
      refine WC.region ?_
      obtain ⟨g8, H⟩ := of_need H
      refine WL.run 5 tt_ok sg0 rfl rfl ⟨⟨(nIn_ok g8).1, (nIn_ok g8).2, rfl⟩, trivial⟩ ?_
      refine WL.nil ?_
      refine QT.n ?_
      refine WC.seq ?_
      refine WC.seq ?_
      refine WC.region ?_
      refine WL.run 3 tt_ok sg0 rfl rfl trivial ?_
      refine WL.nil ?_
      refine QT.n ?_
      refine WC.cond rfl (fun h9 => ?_) (fun h9 => ?_)
      · replace H := of_t H h9
        refine WC.seq ?_
        refine WC.region ?_
        refine WL.run 1 tt_ok sg0 rfl rfl trivial ?_
        refine WL.nil ?_
        refine QT.n ?_
        refine WC.ret ?_
        refine QT.r (QB.r (QT.r (QT.r (QB.r (QT.r ?_)))))
        cases H
        exact Ends.auto rfl rfl rfl trivial
      replace H := of_f H h9
      refine WC.skip ?_
      refine QT.n ?_
      refine WC.seq ?_
      refine WC.seq ?_
      refine WC.region ?_
      refine WL.run 3 tt_ok sg0 rfl rfl trivial ?_
      refine WL.nil ?_
      refine QT.n ?_
      refine WC.cond rfl (fun h10 => ?_) (fun h10 => ?_)
      · replace H := of_t H h10
        refine WC.seq ?_
        refine WC.region ?_
        refine WL.run 1 tt_ok sg0 rfl rfl trivial ?_
        refine WL.nil ?_
        refine QT.n ?_
        refine WC.ret ?_
        refine QT.r (QB.r (QT.r (QT.r (QB.r (QT.r ?_)))))
        cases H
        exact Ends.auto rfl rfl rfl trivial
      replace H := of_f H h10
      refine WC.skip ?_
      refine QT.n ?_
      refine WC.seq ?_
      refine WC.seq ?_
      refine WC.region ?_
      refine WL.run 1 tt_ok sg0 rfl rfl trivial ?_
      refine WL.nil ?_
      refine QT.n ?_
      refine WC.block ?_
      refine WC.loop (ι := {x : Nat × Int // ref09_Check_l12 a0 a1 s3 K6 x.1 x.2 = some r}) (fun x => [(0, .d (slT enc_api_Decl a0)), (1, .d (slT enc_sl_api_Need a1)), (5, .d (.int .i64 s3)), (6, .d (slT enc_api_Need (a1.getD s3.toNat default))), (7, .d (.int .i64 x.1.2))]) (fun x => []) (fun x => x.1.1) ⟨(fuel, 0), H⟩ (Less.mk' ⟨rfl, rfl, rfl, rfl, rfl, trivial⟩ trivial) fun x => ?_
      obtain ⟨⟨k12, s11⟩, H⟩ := x
      rcases k12 with _ | k12
      · exact of_none H
      rw [ref09_Check_l12] at H
      refine WC.seq ?_
      refine WC.seq ?_
      refine WC.region ?_
      refine WL.run 4 tt_ok sg0 rfl rfl trivial ?_
      refine WL.nil ?_
      refine QT.n ?_
      refine WC.cond rfl (fun h13 => ?_) (fun h13 => ?_)
      · replace H := of_t H h13
        refine WC.skip ?_
        refine QT.n ?_
        refine WC.seq ?_
        refine WC.block ?_
        refine WC.seq ?_
        refine WC.region ?_
        obtain ⟨g14, H⟩ := of_need H
        refine WL.run 5 tt_ok sg0 rfl rfl ⟨⟨(nIn_ok g14).1, (nIn_ok g14).2, rfl⟩, trivial⟩ ?_
        obtain ⟨x15, hx15, H⟩ := of_bind H
        refine WL.call [] (ref09_one_0 _ _ hx15) ref09_one_f rfl rfl trivial rfl rfl rfl ?_
        refine WL.run 1 tt_ok sg0 rfl rfl trivial ?_
        refine WL.nil ?_
        refine QT.n ?_
        refine WC.seq ?_
        refine WC.region ?_
        refine WL.run 2 tt_ok sg0 rfl rfl trivial ?_
        refine WL.nil ?_
        refine QT.n ?_
        refine WC.cond rfl (fun h16 => ?_) (fun h16 => ?_)
        · replace H := of_t H h16
          refine WC.seq ?_
          refine WC.region ?_
          refine WL.run 2 tt_ok sg0 rfl rfl trivial ?_
          refine WL.nil ?_
          refine QT.n ?_
          refine WC.ret ?_
          refine QB.r (QT.r (QT.r (QB.r (QT.r (QB.r (QT.r (QT.r (QB.r (QT.r ?_)))))))))
          cases H
          exact Ends.auto rfl rfl rfl trivial
        replace H := of_f H h16
        refine WC.skip ?_
        refine QB.n (QT.n ?_)
        refine WC.region ?_
        refine WL.run 3 tt_ok sg0 rfl rfl trivial ?_
        refine WL.nil ?_
        refine QT.n ?_
        exact ⟨⟨(k12, IntKind.i64.wrap (s11 + 1)), H⟩, Nat.lt_succ_self _, Less.mk' ⟨rfl, rfl, rfl, rfl, rfl, trivial⟩ trivial⟩
      replace H := of_f H h13
      refine WC.exit ?_
      refine QT.x (QT.x (QB.hit (QT.n ?_)))
      refine WC.seq ?_
      refine WC.region ?_
      refine WL.run 1 tt_ok sg0 rfl rfl trivial ?_
      refine WL.nil ?_
      refine QT.n ?_
      refine WC.block ?_
      refine WC.loop (ι := {x : Nat × Int // ref09_Check_l18 a1 s3 K6 x.1 x.2 = some r}) (fun x => [(0, .d (slT enc_api_Decl a0)), (1, .d (slT enc_sl_api_Need a1)), (5, .d (.int .i64 s3)), (6, .d (slT enc_api_Need (a1.getD s3.toNat default))), (9, .d (.int .i64 x.1.2))]) (fun x => []) (fun x => x.1.1) ⟨(fuel, 0), H⟩ (Less.mk' ⟨rfl, rfl, rfl, rfl, rfl, trivial⟩ trivial) fun x => ?_
      obtain ⟨⟨k18, s17⟩, H⟩ := x
      rcases k18 with _ | k18
      · exact of_none H
      rw [ref09_Check_l18] at H
      refine WC.seq ?_
      refine WC.seq ?_
      refine WC.region ?_
      refine WL.run 4 tt_ok sg0 rfl rfl trivial ?_
      refine WL.nil ?_
      refine QT.n ?_
      refine WC.cond rfl (fun h19 => ?_) (fun h19 => ?_)
      · replace H := of_t H h19
        refine WC.skip ?_
        refine QT.n ?_
        obtain ⟨K20, hK20, H⟩ := of_withK H
        refine WC.cut (fun E m => ∃ s21 : Unit, K20 s21 = some r ∧ LessW E m [(0, .d (slT enc_api_Decl a0)), (1, .d (slT enc_sl_api_Need a1)), (5, .d (.int .i64 s3)), (6, .d (slT enc_api_Need (a1.getD s3.toNat default))), (9, .d (.int .i64 s17))] []) ?_ ?_
        · refine WC.block ?_
          refine WC.seq ?_
          refine WC.region ?_
          refine WL.run 1 tt_ok sg0 rfl rfl trivial ?_
          refine WL.nil ?_
          refine QT.n ?_
          refine WC.block ?_
          refine WC.loop (ι := {x : Nat × Int // ref09_Check_l23 a1 s3 s17 K20 x.1 x.2 = some r}) (fun x => [(0, .d (slT enc_api_Decl a0)), (1, .d (slT enc_sl_api_Need a1)), (5, .d (.int .i64 s3)), (6, .d (slT enc_api_Need (a1.getD s3.toNat default))), (9, .d (.int .i64 s17)), (10, .d (.int .i64 x.1.2))]) (fun x => []) (fun x => x.1.1) ⟨(fuel, 0), H⟩ (Less.mk' ⟨rfl, rfl, rfl, rfl, rfl, rfl, trivial⟩ trivial) fun x => ?_
          obtain ⟨⟨k23, s22⟩, H⟩ := x
          rcases k23 with _ | k23
          · exact of_none H
          rw [ref09_Check_l23] at H
          refine WC.seq ?_
          refine WC.seq ?_
          refine WC.region ?_
          refine WL.run 3 tt_ok sg0 rfl rfl trivial ?_
          refine WL.nil ?_
          refine QT.n ?_
          refine WC.cond rfl (fun h24 => ?_) (fun h24 => ?_)
          · replace H := of_t H h24
            refine WC.skip ?_
            refine QT.n ?_
            refine WC.seq ?_
            refine WC.block ?_
            refine WC.seq ?_
            refine WC.heldP (.one 0 true (.one 1 true (.one 2 true (.one 3 true (.one 4 true (.one 5 true (.one 6 true (.one 7 true (.one 8 true (.one 9 true (.one 10 true (.one 11 true (.one 12 true (.one 13 true (.one 14 true (.one 15 true (.one 16 true (.one 17 true (.one 18 true (.one 19 true (.one 20 true (.one 21 true (.one 22 true (.one 23 true (.one 24 true (.one 25 true (.one 26 true .done))))))))))))))))))))))))))) [] [] rfl (by kernel_rfl) rfl (by kernel_rfl) rfl rfl (fun _ h => h) rfl rfl rfl (fun _ _ _ h => h) fun FK NK wK K => ?_
            obtain ⟨g25, H⟩ := of_need H
            obtain ⟨g26, H⟩ := of_need H
            refine WH.run 12 tt_ok rfl rfl rfl rfl ⟨⟨(nIn_ok g25).1, (nIn_ok g25).2, rfl⟩, ⟨(nIn_ok g26).1, (nIn_ok g26).2, rfl⟩, trivial⟩ ?_
            obtain ⟨g27, H⟩ := of_needS H
            refine WH.sect 6 11 false tt_ok rfl rfl rfl rfl (fun hb => ⟨⟨(nIn_ok (g27 hb)).1, (nIn_ok (g27 hb)).2, rfl⟩, trivial⟩) ?_
            refine WH.run 2 tt_ok rfl rfl rfl rfl ⟨by first | exact id | exact fun h => by rw [h]; rfl | simp_all, trivial⟩ ?_
            obtain ⟨g28, H⟩ := of_needS H
            refine WH.sect 6 19 false tt_ok rfl rfl rfl rfl (fun hb => ⟨⟨(nIn_ok (g28 hb)).1, (nIn_ok (g28 hb)).2, rfl⟩, trivial⟩) ?_
            refine WH.run 1 tt_ok rfl rfl rfl rfl ⟨by first | exact id | exact fun h => by rw [h]; rfl | simp_all, trivial⟩ ?_
            refine WH.nil rfl ?_
            refine QT.n ?_
            refine WC.cond rfl (fun h29 => ?_) (fun h29 => ?_)
            · replace H := of_t H h29
              refine WC.seq ?_
              refine WC.region ?_
              refine WL.run 1 tt_ok sg0 rfl rfl trivial ?_
              refine WL.nil ?_
              refine QT.n ?_
              refine WC.ret ?_
              refine QB.r (QT.r (QT.r (QB.r (QB.r (QT.r (QT.r (QB.r (QB.r (QT.r (QT.r (QB.r (QT.r ?_))))))))))))
              cases H
              exact Ends.auto rfl rfl rfl trivial
            replace H := of_f H h29
            refine WC.skip ?_
            refine QB.n (QT.n ?_)
            refine WC.region ?_
            refine WL.run 3 tt_ok sg0 rfl rfl trivial ?_
            refine WL.nil ?_
            refine QT.n ?_
            exact ⟨⟨(k23, IntKind.i64.wrap (s22 + 1)), H⟩, Nat.lt_succ_self _, Less.mk' ⟨rfl, rfl, rfl, rfl, rfl, rfl, trivial⟩ trivial⟩
          replace H := of_f H h24
          refine WC.exit ?_
          refine QT.x (QT.x (QB.hit (QB.n (QT.n ?_))))
          exact ⟨Unit.unit, H, LessW.mk' ⟨AVle.of rfl, AVle.of rfl, AVle.of rfl, AVle.of rfl, AVle.of rfl, trivial⟩ trivial⟩
        · rintro E m ⟨s21, H, hl⟩
          refine WC.lessW hl ?_
          replace H := (hK20 _).symm.trans H
          try dsimp only at H
          refine WC.region ?_
          refine WL.run 3 tt_ok sg0 rfl rfl trivial ?_
          refine WL.nil ?_
          refine QT.n ?_
          exact ⟨⟨(k18, IntKind.i64.wrap (s17 + 1)), H⟩, Nat.lt_succ_self _, Less.mk' ⟨rfl, rfl, rfl, rfl, rfl, trivial⟩ trivial⟩
      replace H := of_f H h19
      refine WC.exit ?_
      refine QT.x (QT.x (QB.hit (QB.n (QT.n ?_))))
      exact ⟨Unit.unit, H, LessW.mk' ⟨AVle.of rfl, AVle.of rfl, AVle.of rfl, trivial⟩ trivial⟩
    · rintro E m ⟨s7, H, hl⟩
      refine WC.lessW hl ?_
      replace H := (hK6 _).symm.trans H
      try dsimp only at H
      refine WC.region ?_
      refine WL.run 3 tt_ok sg0 rfl rfl trivial ?_
      refine WL.nil ?_
      refine QT.n ?_
      exact ⟨⟨(k4, IntKind.i64.wrap (s3 + 1)), H⟩, Nat.lt_succ_self _, Less.mk' ⟨rfl, rfl, rfl, trivial⟩ trivial⟩
  replace H := of_f H h5
  refine WC.exit ?_
  refine QT.x (QT.x (QB.hit (QT.n ?_)))
  refine WC.seq ?_
  refine WC.region ?_
  refine WL.run 1 tt_ok sg0 rfl rfl trivial ?_
  refine WL.nil ?_
  refine QT.n ?_
  refine WC.ret ?_
  cases H
  exact Ends.auto rfl rfl rfl trivial
theorem ref09_Check_f : hasFunc Try.prog 68 Try.f68 := ⟨Try.func68, rfl, by kernel_rfl⟩

/-! ### logjam/logjamref06.Known -/
theorem ref06_Known_0 (a0 : Int) {r : Bool} (H : ref06_Known a0 = some r) : LJ.Spec Try.prog 37 [.d (.int .i64 a0)] [] (.d (.bool r)) [] := by
  refine LJ.Spec.code Try.func37 rfl 9 rfl rfl [] rfl fun w0 F0 S0 B0 => ?_
  unfold ref06_Known at H
  refine WC.seq ?_
  refine WC.region ?_
  refine WL.run 1 tt_ok sg0 rfl rfl trivial ?_
  refine WL.nil ?_
  refine QT.n ?_
  refine WC.seq ?_
  refine WC.region ?_
  refine WL.run 3 tt_ok sg0 rfl rfl trivial ?_
  refine WL.sect 2 2 true tt_ok sg0 rfl rfl (fun _ => trivial) ?_
  refine WL.run 2 tt_ok sg0 rfl rfl ⟨by first | exact id | exact fun h => by rw [h]; rfl | simp_all, trivial⟩ ?_
  refine WL.nil ?_
  refine QT.n ?_
  refine WC.ret ?_
  cases H
  exact Ends.auto rfl rfl rfl trivial
theorem ref06_Known_f : hasFunc Try.prog 37 Try.f37 := ⟨Try.func37, rfl, by kernel_rfl⟩

/-! ### logjam/logjamref06.Forms -/
theorem ref06_Forms_0  {r : List ByteArray} (H : ref06_Forms = some r) : LJ.Spec Try.prog 70 [] [] (.d (slT enc_str r)) [] := by
  refine LJ.Spec.code Try.func70 rfl 2 rfl rfl [] rfl fun w0 F0 S0 B0 => ?_
  unfold ref06_Forms at H
  refine WC.seq ?_
  refine WC.region ?_
  refine WL.run 1 tt_ok sg0 rfl rfl trivial ?_
  refine WL.nil ?_
  refine QT.n ?_
  refine WC.seq ?_
  refine WC.region ?_
  refine WL.eff 101 tt_ok et_ok eg0 rfl rfl rfl trivial ?_
  refine WL.freezeT 101 enc_str ([(⟨#[110]⟩ : ByteArray), (⟨#[107]⟩ : ByteArray), (⟨#[107]⟩ : ByteArray), ByteArray.empty, ByteArray.empty, ByteArray.empty, ByteArray.empty, ByteArray.empty, ByteArray.empty, ByteArray.empty, ByteArray.empty, ByteArray.empty, ByteArray.empty, ByteArray.empty, ByteArray.empty, ByteArray.empty, ByteArray.empty, ByteArray.empty, (⟨#[116]⟩ : ByteArray), (⟨#[116]⟩ : ByteArray), (⟨#[102]⟩ : ByteArray), ByteArray.empty, ByteArray.empty, ByteArray.empty, ByteArray.empty, ByteArray.empty, (⟨#[119]⟩ : ByteArray), (⟨#[119]⟩ : ByteArray), ByteArray.empty, (⟨#[117]⟩ : ByteArray), (⟨#[115]⟩ : ByteArray), (⟨#[112]⟩ : ByteArray), (⟨#[99, 109]⟩ : ByteArray), (⟨#[99, 109]⟩ : ByteArray), (⟨#[99]⟩ : ByteArray), (⟨#[99]⟩ : ByteArray), (⟨#[98]⟩ : ByteArray), (⟨#[98]⟩ : ByteArray), (⟨#[98]⟩ : ByteArray), (⟨#[98]⟩ : ByteArray), (⟨#[102]⟩ : ByteArray), (⟨#[106, 106]⟩ : ByteArray), (⟨#[106, 106]⟩ : ByteArray), ByteArray.empty, ByteArray.empty, (⟨#[118]⟩ : ByteArray), (⟨#[118]⟩ : ByteArray), ByteArray.empty, ByteArray.empty, (⟨#[113]⟩ : ByteArray), (⟨#[109]⟩ : ByteArray), (⟨#[109]⟩ : ByteArray)] : List ByteArray) rfl rfl rfl rfl ?_
  refine WL.run 1 tt_ok sg0 rfl rfl trivial ?_
  refine WL.nil ?_
  refine QT.n ?_
  refine WC.ret ?_
  cases H
  exact Ends.auto rfl rfl rfl trivial
theorem ref06_Forms_f : hasFunc Try.prog 70 Try.f70 := ⟨Try.func70, rfl, by kernel_rfl⟩

/-! ### logjam/logjamref06.Form -/
theorem ref06_Form_0 (a0 : Int) {r : ByteArray} (H : ref06_Form a0 = some r) : LJ.Spec Try.prog 58 [.d (.int .i64 a0)] [] (.d (.str r)) [] := by
  refine LJ.Spec.code Try.func58 rfl 10 rfl rfl [] rfl fun w0 F0 S0 B0 => ?_
  unfold ref06_Form at H
  refine WC.seq ?_
  refine WC.region ?_
  refine WL.run 1 tt_ok sg0 rfl rfl trivial ?_
  refine WL.nil ?_
  refine QT.n ?_
  refine WC.seq ?_
  refine WC.seq ?_
  refine WC.region ?_
  refine WL.run 1 tt_ok sg0 rfl rfl trivial ?_
  obtain ⟨x1, hx1, H⟩ := of_bind H
  refine WL.call [] (ref06_Known_0 _ hx1) ref06_Known_f rfl rfl trivial rfl rfl rfl ?_
  refine WL.run 1 tt_ok sg0 rfl rfl trivial ?_
  refine WL.nil ?_
  refine QT.n ?_
  refine WC.cond rfl (fun h2 => ?_) (fun h2 => ?_)
  · replace H := of_t H h2
    refine WC.seq ?_
    refine WC.region ?_
    refine WL.run 1 tt_ok sg0 rfl rfl trivial ?_
    refine WL.nil ?_
    refine QT.n ?_
    refine WC.ret ?_
    refine QT.r ?_
    cases H
    exact Ends.auto rfl rfl rfl trivial
  replace H := of_f H h2
  refine WC.skip ?_
  refine QT.n ?_
  refine WC.seq ?_
  refine WC.region ?_
  obtain ⟨x3, hx3, H⟩ := of_bind H
  refine WL.call [] (ref06_Forms_0 hx3) ref06_Forms_f rfl rfl trivial rfl rfl rfl ?_
  obtain ⟨g4, H⟩ := of_need H
  refine WL.run 4 tt_ok sg0 rfl rfl ⟨⟨(nIn_ok g4).1, (nIn_ok g4).2, rfl⟩, trivial⟩ ?_
  refine WL.nil ?_
  refine QT.n ?_
  refine WC.ret ?_
  cases H
  exact Ends.auto rfl rfl rfl trivial
theorem ref06_Form_f : hasFunc Try.prog 58 Try.f58 := ⟨Try.func58, rfl, by kernel_rfl⟩

/-! ### logjam/logjamref07.least -/
theorem ref07_least_0 (a0 : Int) {r : Int} (H : ref07_least a0 = some r) : LJ.Spec Try.prog 78 [.d (.int .u8 a0)] [] (.d (.int .i64 r)) [] := by
  refine LJ.Spec.code Try.func78 rfl 5 rfl rfl [] rfl fun w0 F0 S0 B0 => ?_
  unfold ref07_least at H
  refine WC.seq ?_
  refine WC.region ?_
  refine WL.run 1 tt_ok sg0 rfl rfl trivial ?_
  refine WL.nil ?_
  refine QT.n ?_
  refine WC.seq ?_
  refine WC.seq ?_
  refine WC.region ?_
  refine WL.run 2 tt_ok sg0 rfl rfl trivial ?_
  refine WL.nil ?_
  refine QT.n ?_
  refine WC.cond rfl (fun h1 => ?_) (fun h1 => ?_)
  · replace H := of_t H h1
    refine WC.seq ?_
    refine WC.region ?_
    refine WL.run 1 tt_ok sg0 rfl rfl trivial ?_
    refine WL.nil ?_
    refine QT.n ?_
    refine WC.ret ?_
    refine QT.r ?_
    cases H
    exact Ends.auto rfl rfl rfl trivial
  replace H := of_f H h1
  refine WC.skip ?_
  refine QT.n ?_
  refine WC.seq ?_
  refine WC.region ?_
  refine WL.run 1 tt_ok sg0 rfl rfl trivial ?_
  refine WL.nil ?_
  refine QT.n ?_
  refine WC.ret ?_
  cases H
  exact Ends.auto rfl rfl rfl trivial
theorem ref07_least_f : hasFunc Try.prog 78 Try.f78 := ⟨Try.func78, rfl, by kernel_rfl⟩

/-! ### logjam/logjamref07.most -/
theorem ref07_most_0 (a0 : Int) {r : Int} (H : ref07_most a0 = some r) : LJ.Spec Try.prog 79 [.d (.int .u8 a0)] [] (.d (.int .i64 r)) [] := by
  refine LJ.Spec.code Try.func79 rfl 12 rfl rfl [] rfl fun w0 F0 S0 B0 => ?_
  unfold ref07_most at H
  refine WC.seq ?_
  refine WC.region ?_
  refine WL.run 1 tt_ok sg0 rfl rfl trivial ?_
  refine WL.nil ?_
  refine QT.n ?_
  refine WC.seq ?_
  refine WC.seq ?_
  refine WC.region ?_
  refine WL.run 1 tt_ok sg0 rfl rfl trivial ?_
  refine WL.nil ?_
  refine QT.n ?_
  refine WC.block ?_
  refine WC.seq ?_
  refine WC.region ?_
  refine WL.run 2 tt_ok sg0 rfl rfl trivial ?_
  refine WL.nil ?_
  refine QT.n ?_
  refine WC.cond rfl (fun h1 => ?_) (fun h1 => ?_)
  · replace H := of_t H h1
    refine WC.seq ?_
    refine WC.region ?_
    refine WL.run 1 tt_ok sg0 rfl rfl trivial ?_
    refine WL.nil ?_
    refine QT.n ?_
    refine WC.ret ?_
    refine QB.r (QT.r ?_)
    cases H
    exact Ends.auto rfl rfl rfl trivial
  replace H := of_f H h1
  refine WC.seq ?_
  refine WC.region ?_
  refine WL.run 2 tt_ok sg0 rfl rfl trivial ?_
  refine WL.nil ?_
  refine QT.n ?_
  refine WC.cond rfl (fun h2 => ?_) (fun h2 => ?_)
  · replace H := of_t H h2
    refine WC.seq ?_
    refine WC.region ?_
    refine WL.run 1 tt_ok sg0 rfl rfl trivial ?_
    refine WL.nil ?_
    refine QT.n ?_
    refine WC.ret ?_
    refine QB.r (QT.r ?_)
    cases H
    exact Ends.auto rfl rfl rfl trivial
  replace H := of_f H h2
  refine WC.seq ?_
  refine WC.region ?_
  refine WL.run 2 tt_ok sg0 rfl rfl trivial ?_
  refine WL.nil ?_
  refine QT.n ?_
  refine WC.cond rfl (fun h3 => ?_) (fun h3 => ?_)
  · replace H := of_t H h3
    refine WC.seq ?_
    refine WC.region ?_
    refine WL.run 1 tt_ok sg0 rfl rfl trivial ?_
    refine WL.nil ?_
    refine QT.n ?_
    refine WC.ret ?_
    refine QB.r (QT.r ?_)
    cases H
    exact Ends.auto rfl rfl rfl trivial
  replace H := of_f H h3
  refine WC.seq ?_
  refine WC.region ?_
  refine WL.run 2 tt_ok sg0 rfl rfl trivial ?_
  refine WL.nil ?_
  refine QT.n ?_
  refine WC.cond rfl (fun h4 => ?_) (fun h4 => ?_)
  · replace H := of_t H h4
    refine WC.seq ?_
    refine WC.region ?_
    refine WL.run 1 tt_ok sg0 rfl rfl trivial ?_
    refine WL.nil ?_
    refine QT.n ?_
    refine WC.ret ?_
    refine QB.r (QT.r ?_)
    cases H
    exact Ends.auto rfl rfl rfl trivial
  replace H := of_f H h4
  refine WC.skip ?_
  refine QB.n (QT.n ?_)
  refine WC.seq ?_
  refine WC.region ?_
  refine WL.run 1 tt_ok sg0 rfl rfl trivial ?_
  refine WL.nil ?_
  refine QT.n ?_
  refine WC.ret ?_
  cases H
  exact Ends.auto rfl rfl rfl trivial
theorem ref07_most_f : hasFunc Try.prog 79 Try.f79 := ⟨Try.func79, rfl, by kernel_rfl⟩

/-! ### logjam/logjamref07.Check -/
theorem ref07_Check_0 (a0 : T_api_Ins) {r : Int} (H : ref07_Check a0 = some r) : LJ.Spec Try.prog 76 [.d (.agg [.int .i64 a0.Op, .int .i64 a0.A, .int .i64 a0.B])] [] (.d (.int .i64 r)) [] := by
  refine LJ.Spec.code Try.func76 rfl 85 rfl rfl [] rfl fun w0 F0 S0 B0 => ?_
  unfold ref07_Check at H
  refine WC.seq ?_
  refine WC.region ?_
  refine WL.eff 101 tt_ok et_ok eg0 rfl rfl rfl trivial ?_
  refine WL.run 1 tt_ok sg0 rfl rfl trivial ?_
  refine WL.nil ?_
  refine QT.n ?_
  refine WC.seq ?_
  refine WC.seq ?_
  refine WC.region ?_
  refine WL.run 2 tt_ok sg0 rfl rfl trivial ?_
  obtain ⟨x1, hx1, H⟩ := of_bind H
  refine WL.call [] (ref06_Known_0 _ hx1) ref06_Known_f rfl rfl trivial rfl rfl rfl ?_
  refine WL.run 1 tt_ok sg0 rfl rfl trivial ?_
  refine WL.nil ?_
  refine QT.n ?_
  refine WC.cond rfl (fun h2 => ?_) (fun h2 => ?_)
  · replace H := of_t H h2
    refine WC.seq ?_
    refine WC.region ?_
    refine WL.run 1 tt_ok sg0 rfl rfl trivial ?_
    refine WL.nil ?_
    refine QT.n ?_
    refine WC.ret ?_
    refine QT.r ?_
    cases H
    exact Ends.auto rfl rfl rfl trivial
  replace H := of_f H h2
  refine WC.skip ?_
  refine QT.n ?_
  refine WC.seq ?_
  obtain ⟨x3_2_1, hx3_2_1, H⟩ := of_bind H
  refine WC.heldF [(1, .ptr 101 0), (3, .d (.str x3_2_1)), (4, .d (slT enc_i64 ([a0.A, a0.B] : List Int)))] [(101, .box 55 [.d (.int .i64 a0.Op), .d (.int .i64 a0.A), .d (.int .i64 a0.B)])] (.one 0 true (.one 1 true (.one 3 true (.one 4 true (.one 5 true (.one 6 true (.fork (.one 2 false (.one 8 true (.one 7 false (.one 9 true .done)))) (.one 7 false (.one 2 false (.one 8 true (.one 9 true .done))))))))))) [101] [101] rfl (by kernel_rfl) rfl (by kernel_rfl) rfl rfl (fun _ h => h) rfl rfl rfl (fun FK NK wK K => ?_) ?_
  · refine WH.run 6 tt_ok rfl rfl rfl rfl trivial ?_
    refine WH.fork ?_ ?_
    · refine WH.call [] rfl (ref06_Form_0 _ hx3_2_1) ref06_Form_f rfl rfl trivial rfl rfl rfl rfl rfl ?_
      refine WH.run 1 tt_ok rfl rfl rfl rfl trivial ?_
      refine WH.eff 118 tt_ok et_ok rfl rfl rfl rfl trivial rfl rfl ?_
      refine WH.freezeT 118 enc_i64 ([a0.A, a0.B] : List Int) rfl rfl rfl rfl ?_
      refine WH.mv rfl rfl rfl rfl rfl rfl rfl rfl rfl ?_
      exact WH.nilF rfl (LessW.mk' ⟨AVle.of rfl, AVle.of rfl, AVle.of rfl, trivial⟩ ⟨rfl, trivial⟩)
    · refine WH.eff 118 tt_ok et_ok rfl rfl rfl rfl trivial rfl rfl ?_
      refine WH.freezeT 118 enc_i64 ([a0.A, a0.B] : List Int) rfl rfl rfl rfl ?_
      refine WH.call [] rfl (ref06_Form_0 _ hx3_2_1) ref06_Form_f rfl rfl trivial rfl rfl rfl rfl rfl ?_
      refine WH.run 1 tt_ok rfl rfl rfl rfl trivial ?_
      refine WH.mv rfl rfl rfl rfl rfl rfl rfl rfl rfl ?_
      exact WH.nilF rfl (LessW.mk' ⟨AVle.of rfl, AVle.of rfl, AVle.of rfl, trivial⟩ ⟨rfl, trivial⟩)
  · refine QT.n ?_
    refine WC.seq ?_
    refine WC.seq ?_
    refine WC.region ?_
    refine WL.run 1 tt_ok sg0 rfl rfl trivial ?_
    refine WL.nil ?_
    refine QT.n ?_
    refine WC.block ?_
    refine WC.loop (ι := {x : Nat × Int // ref07_Check_l4 a0 x3_2_1 x.1 x.2 = some r}) (fun x => [(1, .ptr 101 0), (3, .d (.str x3_2_1)), (4, .d (slT enc_i64 ([a0.A, a0.B] : List Int))), (5, .d (.int .i64 x.1.2))]) (fun x => [(101, .box 55 [.d (.int .i64 a0.Op), .d (.int .i64 a0.A), .d (.int .i64 a0.B)])]) (fun x => x.1.1) ⟨(fuel, 0), H⟩ (Less.mk' ⟨rfl, rfl, rfl, rfl, trivial⟩ ⟨rfl, trivial⟩) fun x => ?_
    obtain ⟨⟨k4, s3⟩, H⟩ := x
    rcases k4 with _ | k4
    · exact of_none H
    rw [ref07_Check_l4] at H
    refine WC.seq ?_
    refine WC.seq ?_
    refine WC.region ?_
    refine WL.run 4 tt_ok sg0 rfl rfl trivial ?_
    refine WL.nil ?_
    refine QT.n ?_
    refine WC.cond rfl (fun h5 => ?_) (fun h5 => ?_)
    · replace H := of_t H h5
      refine WC.skip ?_
      refine QT.n ?_
      refine WC.seq ?_
      refine WC.block ?_
      refine WC.seq ?_
      refine WC.heldP (.one 0 true (.one 1 true (.one 2 true (.one 3 true (.one 4 true (.one 5 true (.one 6 true (.one 7 true (.one 8 true (.one 9 false (.one 10 true (.one 11 true (.one 12 true (.one 13 true (.one 14 true (.one 15 true (.one 16 true (.one 17 true (.one 18 true (.one 19 true (.one 20 true (.one 21 true (.one 22 true (.one 23 true (.one 24 true (.one 25 false (.one 26 true (.one 27 true (.one 28 true (.one 29 true (.one 30 true (.one 31 true (.one 32 true (.one 33 true (.one 34 true (.one 35 false (.one 36 true (.one 37 true (.one 38 true (.one 39 true .done)))))))))))))))))))))))))))))))))))))))) [101] [101] rfl (by kernel_rfl) rfl (by kernel_rfl) rfl rfl (fun _ h => h) rfl rfl rfl (fun _ _ _ h => h) fun FK NK wK K => ?_
      obtain ⟨g6, H⟩ := of_need H
      refine WH.run 5 tt_ok rfl rfl rfl rfl ⟨(nIn_ok g6), trivial⟩ ?_
      refine WH.split (g := 29) rfl (fun h7 => ?_) (fun h7 => ?_)
      · replace H := of_t H h7
        obtain ⟨g8, H⟩ := of_need H
        refine WH.grun 4 4 true 29 tt_ok rfl rfl rfl rfl rfl rfl ⟨⟨(nIn_ok g8).1, (nIn_ok g8).2, rfl⟩, trivial⟩ ?_
        obtain ⟨x9, hx9, H⟩ := of_bind H
        refine WH.gcall [] rfl (ref03_Fits_0 _ hx9) ref03_Fits_f rfl rfl trivial rfl rfl rfl rfl rfl rfl rfl rfl ?_
        refine WH.grun 1 4 true 29 tt_ok rfl rfl rfl rfl rfl rfl trivial ?_
        refine WH.pick1 rfl rfl rfl rfl rfl rfl rfl ?_
        refine WH.run 1 tt_ok rfl rfl rfl rfl trivial ?_
        refine WH.split (g := 37) rfl (fun h10 => ?_) (fun h10 => ?_)
        · replace H := of_t H h10
          refine WH.gskip rfl rfl rfl rfl rfl rfl rfl ?_
          refine WH.gskip rfl rfl rfl rfl rfl rfl rfl ?_
          refine WH.gskip rfl rfl rfl rfl rfl rfl rfl ?_
          refine WH.gskip rfl rfl rfl rfl rfl rfl rfl ?_
          refine WH.gskip rfl rfl rfl rfl rfl rfl rfl ?_
          refine WH.gskip rfl rfl rfl rfl rfl rfl rfl ?_
          refine WH.gskip rfl rfl rfl rfl rfl rfl rfl ?_
          refine WH.gskip rfl rfl rfl rfl rfl rfl rfl ?_
          refine WH.gskip rfl rfl rfl rfl rfl rfl rfl ?_
          refine WH.gskip rfl rfl rfl rfl rfl rfl rfl ?_
          refine WH.gskip rfl rfl rfl rfl rfl rfl rfl ?_
          refine WH.gskip rfl rfl rfl rfl rfl rfl rfl ?_
          refine WH.gskip rfl rfl rfl rfl rfl rfl rfl ?_
          refine WH.gskip rfl rfl rfl rfl rfl rfl rfl ?_
          refine WH.gskip rfl rfl rfl rfl rfl rfl rfl ?_
          refine WH.gskip rfl rfl rfl rfl rfl rfl rfl ?_
          refine WH.gskip rfl rfl rfl rfl rfl rfl rfl ?_
          refine WH.gskip rfl rfl rfl rfl rfl rfl rfl ?_
          refine WH.gskip rfl rfl rfl rfl rfl rfl rfl ?_
          refine WH.gskip rfl rfl rfl rfl rfl rfl rfl ?_
          refine WH.gskip rfl rfl rfl rfl rfl rfl rfl ?_
          refine WH.gskip rfl rfl rfl rfl rfl rfl rfl ?_
          refine WH.gskip rfl rfl rfl rfl rfl rfl rfl ?_
          refine WH.gskip rfl rfl rfl rfl rfl rfl rfl ?_
          refine WH.gskip rfl rfl rfl rfl rfl rfl rfl ?_
          refine WH.gskip rfl rfl rfl rfl rfl rfl rfl ?_
          refine WH.pick1 rfl rfl rfl rfl rfl rfl rfl ?_
          refine WH.nil rfl ?_
          refine QT.n ?_
          refine WC.cond rfl (fun h => ?_) (fun h => absurd h (by decide))
          refine WC.seq ?_
          refine WC.region ?_
          refine WL.run 1 tt_ok sg0 rfl rfl trivial ?_
          refine WL.nil ?_
          refine QT.n ?_
          refine WC.ret ?_
          refine QB.r (QT.r (QT.r (QB.r (QT.r ?_))))
          cases H
          exact Ends.auto rfl rfl rfl trivial
        · replace H := of_f H h10
          obtain ⟨g11, H⟩ := of_need H
          refine WH.grun 5 12 false 37 tt_ok rfl rfl rfl rfl rfl rfl ⟨(nIn_ok g11), trivial⟩ ?_
          refine WH.split (g := 42) rfl (fun h12 => ?_) (fun h12 => ?_)
          · replace H := of_t H h12
            obtain ⟨g13, H⟩ := of_need H
            obtain ⟨g14, H⟩ := of_need H
            refine WH.grun 7 17 true 42 tt_ok rfl rfl rfl rfl rfl rfl ⟨⟨(nIn_ok g13).1, (nIn_ok g13).2, rfl⟩, (nIn_ok g14), trivial⟩ ?_
            obtain ⟨x15, hx15, H⟩ := of_bind H
            refine WH.gcall [] rfl (ref07_least_0 _ hx15) ref07_least_f rfl rfl trivial rfl rfl rfl rfl rfl rfl rfl rfl ?_
            refine WH.grun 2 17 true 42 tt_ok rfl rfl rfl rfl rfl rfl trivial ?_
            refine WH.split (g := 52) rfl (fun h16 => ?_) (fun h16 => ?_)
            · replace H := of_t H h16
              refine WH.gskip rfl rfl rfl rfl rfl rfl rfl ?_
              refine WH.gskip rfl rfl rfl rfl rfl rfl rfl ?_
              refine WH.gskip rfl rfl rfl rfl rfl rfl rfl ?_
              refine WH.gskip rfl rfl rfl rfl rfl rfl rfl ?_
              refine WH.gskip rfl rfl rfl rfl rfl rfl rfl ?_
              refine WH.gskip rfl rfl rfl rfl rfl rfl rfl ?_
              refine WH.gskip rfl rfl rfl rfl rfl rfl rfl ?_
              refine WH.gskip rfl rfl rfl rfl rfl rfl rfl ?_
              refine WH.gskip rfl rfl rfl rfl rfl rfl rfl ?_
              refine WH.gpick1 rfl rfl rfl rfl rfl rfl rfl rfl rfl rfl ?_
              refine WH.gpick1 rfl rfl rfl rfl rfl rfl rfl rfl rfl rfl ?_
              refine WH.pick1 rfl rfl rfl rfl rfl rfl rfl ?_
              refine WH.nil rfl ?_
              refine QT.n ?_
              refine WC.cond rfl (fun h => ?_) (fun h => absurd h (by decide))
              refine WC.seq ?_
              refine WC.region ?_
              refine WL.run 1 tt_ok sg0 rfl rfl trivial ?_
              refine WL.nil ?_
              refine QT.n ?_
              refine WC.ret ?_
              refine QB.r (QT.r (QT.r (QB.r (QT.r ?_))))
              cases H
              exact Ends.auto rfl rfl rfl trivial
            · replace H := of_f H h16
              obtain ⟨g17, H⟩ := of_need H
              obtain ⟨g18, H⟩ := of_need H
              refine WH.grun 7 27 false 52 tt_ok rfl rfl rfl rfl rfl rfl ⟨⟨(nIn_ok g17).1, (nIn_ok g17).2, rfl⟩, (nIn_ok g18), trivial⟩ ?_
              obtain ⟨x19, hx19, H⟩ := of_bind H
              refine WH.gcall [] rfl (ref07_most_0 _ hx19) ref07_most_f rfl rfl trivial rfl rfl rfl rfl rfl rfl rfl rfl ?_
              refine WH.grun 1 27 false 52 tt_ok rfl rfl rfl rfl rfl rfl trivial ?_
              refine WH.gpick1 rfl rfl rfl rfl rfl rfl rfl rfl rfl rfl ?_
              refine WH.gpick1 rfl rfl rfl rfl rfl rfl rfl rfl rfl rfl ?_
              refine WH.pick1 rfl rfl rfl rfl rfl rfl rfl ?_
              refine WH.nil rfl ?_
              refine QT.n ?_
              refine WC.cond rfl (fun h20 => ?_) (fun h20 => ?_)
              · replace H := of_t H h20
                refine WC.seq ?_
                refine WC.region ?_
                refine WL.run 1 tt_ok sg0 rfl rfl trivial ?_
                refine WL.nil ?_
                refine QT.n ?_
                refine WC.ret ?_
                refine QB.r (QT.r (QT.r (QB.r (QT.r ?_))))
                cases H
                exact Ends.auto rfl rfl rfl trivial
              replace H := of_f H h20
              refine WC.skip ?_
              refine QB.n (QT.n ?_)
              refine WC.region ?_
              refine WL.run 3 tt_ok sg0 rfl rfl trivial ?_
              refine WL.nil ?_
              refine QT.n ?_
              exact ⟨⟨(k4, IntKind.i64.wrap (s3 + 1)), H⟩, Nat.lt_succ_self _, Less.mk' ⟨rfl, rfl, rfl, rfl, trivial⟩ ⟨rfl, trivial⟩⟩
          · replace H := of_f H h12
            refine WH.gskip rfl rfl rfl rfl rfl rfl rfl ?_
            refine WH.gskip rfl rfl rfl rfl rfl rfl rfl ?_
            refine WH.gskip rfl rfl rfl rfl rfl rfl rfl ?_
            refine WH.gskip rfl rfl rfl rfl rfl rfl rfl ?_
            refine WH.gskip rfl rfl rfl rfl rfl rfl rfl ?_
            refine WH.gskip rfl rfl rfl rfl rfl rfl rfl ?_
            refine WH.gskip rfl rfl rfl rfl rfl rfl rfl ?_
            refine WH.gskip rfl rfl rfl rfl rfl rfl rfl ?_
            refine WH.gskip rfl rfl rfl rfl rfl rfl rfl ?_
            refine WH.gskip rfl rfl rfl rfl rfl rfl rfl ?_
            refine WH.gskip rfl rfl rfl rfl rfl rfl rfl ?_
            refine WH.gskip rfl rfl rfl rfl rfl rfl rfl ?_
            refine WH.gskip rfl rfl rfl rfl rfl rfl rfl ?_
            refine WH.gskip rfl rfl rfl rfl rfl rfl rfl ?_
            refine WH.gskip rfl rfl rfl rfl rfl rfl rfl ?_
            refine WH.gskip rfl rfl rfl rfl rfl rfl rfl ?_
            refine WH.gskip rfl rfl rfl rfl rfl rfl rfl ?_
            refine WH.gskip rfl rfl rfl rfl rfl rfl rfl ?_
            refine WH.gskip rfl rfl rfl rfl rfl rfl rfl ?_
            refine WH.gskip rfl rfl rfl rfl rfl rfl rfl ?_
            refine WH.gpick1 rfl rfl rfl rfl rfl rfl rfl rfl rfl rfl ?_
            refine WH.pick1 rfl rfl rfl rfl rfl rfl rfl ?_
            refine WH.nil rfl ?_
            refine QT.n ?_
            refine WC.cond rfl (fun h => absurd h (by decide)) (fun h => ?_)
            refine WC.skip ?_
            refine QB.n (QT.n ?_)
            refine WC.region ?_
            refine WL.run 3 tt_ok sg0 rfl rfl trivial ?_
            refine WL.nil ?_
            refine QT.n ?_
            exact ⟨⟨(k4, IntKind.i64.wrap (s3 + 1)), H⟩, Nat.lt_succ_self _, Less.mk' ⟨rfl, rfl, rfl, rfl, trivial⟩ ⟨rfl, trivial⟩⟩
      · replace H := of_f H h7
        refine WH.gskip rfl rfl rfl rfl rfl rfl rfl ?_
        refine WH.gskip rfl rfl rfl rfl rfl rfl rfl ?_
        refine WH.gskip rfl rfl rfl rfl rfl rfl rfl ?_
        refine WH.gskip rfl rfl rfl rfl rfl rfl rfl ?_
        refine WH.gskip rfl rfl rfl rfl rfl rfl rfl ?_
        refine WH.gskip rfl rfl rfl rfl rfl rfl rfl ?_
        refine WH.pick1 rfl rfl rfl rfl rfl rfl rfl ?_
        refine WH.run 1 tt_ok rfl rfl rfl rfl trivial ?_
        obtain ⟨g21, H⟩ := of_need H
        refine WH.grun 5 12 false 37 tt_ok rfl rfl rfl rfl rfl rfl ⟨(nIn_ok g21), trivial⟩ ?_
        refine WH.split (g := 42) rfl (fun h22 => ?_) (fun h22 => ?_)
        · replace H := of_t H h22
          obtain ⟨g23, H⟩ := of_need H
          obtain ⟨g24, H⟩ := of_need H
          refine WH.grun 7 17 true 42 tt_ok rfl rfl rfl rfl rfl rfl ⟨⟨(nIn_ok g23).1, (nIn_ok g23).2, rfl⟩, (nIn_ok g24), trivial⟩ ?_
          obtain ⟨x25, hx25, H⟩ := of_bind H
          refine WH.gcall [] rfl (ref07_least_0 _ hx25) ref07_least_f rfl rfl trivial rfl rfl rfl rfl rfl rfl rfl rfl ?_
          refine WH.grun 2 17 true 42 tt_ok rfl rfl rfl rfl rfl rfl trivial ?_
          refine WH.split (g := 52) rfl (fun h26 => ?_) (fun h26 => ?_)
          · replace H := of_t H h26
            refine WH.gskip rfl rfl rfl rfl rfl rfl rfl ?_
            refine WH.gskip rfl rfl rfl rfl rfl rfl rfl ?_
            refine WH.gskip rfl rfl rfl rfl rfl rfl rfl ?_
            refine WH.gskip rfl rfl rfl rfl rfl rfl rfl ?_
            refine WH.gskip rfl rfl rfl rfl rfl rfl rfl ?_
            refine WH.gskip rfl rfl rfl rfl rfl rfl rfl ?_
            refine WH.gskip rfl rfl rfl rfl rfl rfl rfl ?_
            refine WH.gskip rfl rfl rfl rfl rfl rfl rfl ?_
            refine WH.gskip rfl rfl rfl rfl rfl rfl rfl ?_
            refine WH.gpick1 rfl rfl rfl rfl rfl rfl rfl rfl rfl rfl ?_
            refine WH.gpick1 rfl rfl rfl rfl rfl rfl rfl rfl rfl rfl ?_
            refine WH.pick1 rfl rfl rfl rfl rfl rfl rfl ?_
            refine WH.nil rfl ?_
            refine QT.n ?_
            refine WC.cond rfl (fun h => ?_) (fun h => absurd h (by decide))
            refine WC.seq ?_
            refine WC.region ?_
            refine WL.run 1 tt_ok sg0 rfl rfl trivial ?_
            refine WL.nil ?_
            refine QT.n ?_
            refine WC.ret ?_
            refine QB.r (QT.r (QT.r (QB.r (QT.r ?_))))
            cases H
            exact Ends.auto rfl rfl rfl trivial
          · replace H := of_f H h26
            obtain ⟨g27, H⟩ := of_need H
            obtain ⟨g28, H⟩ := of_need H
            refine WH.grun 7 27 false 52 tt_ok rfl rfl rfl rfl rfl rfl ⟨⟨(nIn_ok g27).1, (nIn_ok g27).2, rfl⟩, (nIn_ok g28), trivial⟩ ?_
            obtain ⟨x29, hx29, H⟩ := of_bind H
            refine WH.gcall [] rfl (ref07_most_0 _ hx29) ref07_most_f rfl rfl trivial rfl rfl rfl rfl rfl rfl rfl rfl ?_
            refine WH.grun 1 27 false 52 tt_ok rfl rfl rfl rfl rfl rfl trivial ?_
            refine WH.gpick1 rfl rfl rfl rfl rfl rfl rfl rfl rfl rfl ?_
            refine WH.gpick1 rfl rfl rfl rfl rfl rfl rfl rfl rfl rfl ?_
            refine WH.pick1 rfl rfl rfl rfl rfl rfl rfl ?_
            refine WH.nil rfl ?_
            refine QT.n ?_
            refine WC.cond rfl (fun h30 => ?_) (fun h30 => ?_)
            · replace H := of_t H h30
              refine WC.seq ?_
              refine WC.region ?_
              refine WL.run 1 tt_ok sg0 rfl rfl trivial ?_
              refine WL.nil ?_
              refine QT.n ?_
              refine WC.ret ?_
              refine QB.r (QT.r (QT.r (QB.r (QT.r ?_))))
              cases H
              exact Ends.auto rfl rfl rfl trivial
            replace H := of_f H h30
            refine WC.skip ?_
            refine QB.n (QT.n ?_)
            refine WC.region ?_
            refine WL.run 3 tt_ok sg0 rfl rfl trivial ?_
            refine WL.nil ?_
            refine QT.n ?_
            exact ⟨⟨(k4, IntKind.i64.wrap (s3 + 1)), H⟩, Nat.lt_succ_self _, Less.mk' ⟨rfl, rfl, rfl, rfl, trivial⟩ ⟨rfl, trivial⟩⟩
        · replace H := of_f H h22
          refine WH.gskip rfl rfl rfl rfl rfl rfl rfl ?_
          refine WH.gskip rfl rfl rfl rfl rfl rfl rfl ?_
          refine WH.gskip rfl rfl rfl rfl rfl rfl rfl ?_
          refine WH.gskip rfl rfl rfl rfl rfl rfl rfl ?_
          refine WH.gskip rfl rfl rfl rfl rfl rfl rfl ?_
          refine WH.gskip rfl rfl rfl rfl rfl rfl rfl ?_
          refine WH.gskip rfl rfl rfl rfl rfl rfl rfl ?_
          refine WH.gskip rfl rfl rfl rfl rfl rfl rfl ?_
          refine WH.gskip rfl rfl rfl rfl rfl rfl rfl ?_
          refine WH.gskip rfl rfl rfl rfl rfl rfl rfl ?_
          refine WH.gskip rfl rfl rfl rfl rfl rfl rfl ?_
          refine WH.gskip rfl rfl rfl rfl rfl rfl rfl ?_
          refine WH.gskip rfl rfl rfl rfl rfl rfl rfl ?_
          refine WH.gskip rfl rfl rfl rfl rfl rfl rfl ?_
          refine WH.gskip rfl rfl rfl rfl rfl rfl rfl ?_
          refine WH.gskip rfl rfl rfl rfl rfl rfl rfl ?_
          refine WH.gskip rfl rfl rfl rfl rfl rfl rfl ?_
          refine WH.gskip rfl rfl rfl rfl rfl rfl rfl ?_
          refine WH.gskip rfl rfl rfl rfl rfl rfl rfl ?_
          refine WH.gskip rfl rfl rfl rfl rfl rfl rfl ?_
          refine WH.gpick1 rfl rfl rfl rfl rfl rfl rfl rfl rfl rfl ?_
          refine WH.pick1 rfl rfl rfl rfl rfl rfl rfl ?_
          refine WH.nil rfl ?_
          refine QT.n ?_
          refine WC.cond rfl (fun h => absurd h (by decide)) (fun h => ?_)
          refine WC.skip ?_
          refine QB.n (QT.n ?_)
          refine WC.region ?_
          refine WL.run 3 tt_ok sg0 rfl rfl trivial ?_
          refine WL.nil ?_
          refine QT.n ?_
          exact ⟨⟨(k4, IntKind.i64.wrap (s3 + 1)), H⟩, Nat.lt_succ_self _, Less.mk' ⟨rfl, rfl, rfl, rfl, trivial⟩ ⟨rfl, trivial⟩⟩
    replace H := of_f H h5
    refine WC.exit ?_
    refine QT.x (QT.x (QB.hit (QT.n ?_)))
    refine WC.seq ?_
    refine WC.seq ?_
    refine WC.region ?_
    refine WL.run 3 tt_ok sg0 rfl rfl trivial ?_
    refine WL.sect 5 2 true tt_ok sg0 rfl rfl (fun _ => trivial) ?_
    refine WL.run 1 tt_ok sg0 rfl rfl ⟨by first | exact id | exact fun h => by rw [h]; rfl | simp_all, trivial⟩ ?_
    refine WL.nil ?_
    refine QT.n ?_
    refine WC.cond rfl (fun h31 => ?_) (fun h31 => ?_)
    · replace H := of_t H h31
      refine WC.seq ?_
      refine WC.region ?_
      refine WL.run 1 tt_ok sg0 rfl rfl trivial ?_
      refine WL.nil ?_
      refine QT.n ?_
      refine WC.ret ?_
      refine QT.r ?_
      cases H
      exact Ends.auto rfl rfl rfl trivial
    replace H := of_f H h31
    refine WC.skip ?_
    refine QT.n ?_
    refine WC.seq ?_
    refine WC.seq ?_
    refine WC.region ?_
    refine WL.run 3 tt_ok sg0 rfl rfl trivial ?_
    refine WL.nil ?_
    refine QT.n ?_
    refine WC.block ?_
    refine WC.loop (ι := {x : Nat × Int // ref07_Check_l33 a0 x.1 x.2 = some r}) (fun x => [(4, .d (slT enc_i64 ([a0.A, a0.B] : List Int))), (6, .d (.int .i64 x.1.2))]) (fun x => []) (fun x => x.1.1) ⟨(fuel, (x3_2_1.size : Int)), H⟩ (Less.mk' ⟨rfl, rfl, trivial⟩ trivial) fun x => ?_
    obtain ⟨⟨k33, s32⟩, H⟩ := x
    rcases k33 with _ | k33
    · exact of_none H
    rw [ref07_Check_l33] at H
    refine WC.seq ?_
    refine WC.seq ?_
    refine WC.region ?_
    refine WL.run 2 tt_ok sg0 rfl rfl trivial ?_
    refine WL.nil ?_
    refine QT.n ?_
    refine WC.cond rfl (fun h34 => ?_) (fun h34 => ?_)
    · replace H := of_t H h34
      refine WC.skip ?_
      refine QT.n ?_
      refine WC.seq ?_
      refine WC.block ?_
      refine WC.seq ?_
      refine WC.region ?_
      obtain ⟨g35, H⟩ := of_need H
      refine WL.run 5 tt_ok sg0 rfl rfl ⟨⟨(nIn_ok g35).1, (nIn_ok g35).2, rfl⟩, trivial⟩ ?_
      refine WL.nil ?_
      refine QT.n ?_
      refine WC.cond rfl (fun h36 => ?_) (fun h36 => ?_)
      · replace H := of_t H h36
        refine WC.seq ?_
        refine WC.region ?_
        refine WL.run 1 tt_ok sg0 rfl rfl trivial ?_
        refine WL.nil ?_
        refine QT.n ?_
        refine WC.ret ?_
        refine QB.r (QT.r (QT.r (QB.r (QT.r ?_))))
        cases H
        exact Ends.auto rfl rfl rfl trivial
      replace H := of_f H h36
      refine WC.skip ?_
      refine QB.n (QT.n ?_)
      refine WC.region ?_
      refine WL.run 3 tt_ok sg0 rfl rfl trivial ?_
      refine WL.nil ?_
      refine QT.n ?_
      exact ⟨⟨(k33, IntKind.i64.wrap (s32 + 1)), H⟩, Nat.lt_succ_self _, Less.mk' ⟨rfl, rfl, trivial⟩ trivial⟩
    replace H := of_f H h34
    refine WC.exit ?_
    refine QT.x (QT.x (QB.hit (QT.n ?_)))
    refine WC.seq ?_
    refine WC.region ?_
    refine WL.run 1 tt_ok sg0 rfl rfl trivial ?_
    refine WL.nil ?_
    refine QT.n ?_
    refine WC.ret ?_
    cases H
    exact Ends.auto rfl rfl rfl trivial
theorem ref07_Check_f : hasFunc Try.prog 76 Try.f76 := ⟨Try.func76, rfl, by kernel_rfl⟩

/-! ### logjam/logjamref10.function -/
theorem ref10_function_0 (a0 : T_api_Func) {r : Int} (H : ref10_function a0 = some r) : LJ.Spec Try.prog 69 [.d (.agg [.int .i64 a0.Args, .int .i64 a0.Locals, slT enc_api_Ins a0.Code])] [] (.d (.int .i64 r)) [] := by
  refine LJ.Spec.code Try.func69 rfl 44 rfl rfl [] rfl fun w0 F0 S0 B0 => ?_
  unfold ref10_function at H
  refine WC.seq ?_
  refine WC.region ?_
  refine WL.eff 101 tt_ok et_ok eg0 rfl rfl rfl trivial ?_
  refine WL.run 1 tt_ok sg0 rfl rfl trivial ?_
  refine WL.nil ?_
  refine QT.n ?_
  refine WC.seq ?_
  refine WC.seq ?_
  refine WC.region ?_
  refine WL.run 4 tt_ok sg0 rfl rfl trivial ?_
  refine WL.sect 5 3 false tt_ok sg0 rfl rfl (fun _ => trivial) ?_
  refine WL.run 2 tt_ok sg0 rfl rfl ⟨by first | exact id | exact fun h => by rw [h]; rfl | simp_all, trivial⟩ ?_
  refine WL.sect 3 10 false tt_ok sg0 rfl rfl (fun _ => trivial) ?_
  refine WL.run 1 tt_ok sg0 rfl rfl ⟨by first | exact id | exact fun h => by rw [h]; rfl | simp_all, trivial⟩ ?_
  refine WL.nil ?_
  refine QT.n ?_
  refine WC.cond rfl (fun h1 => ?_) (fun h1 => ?_)
  · replace H := of_t H h1
    refine WC.seq ?_
    refine WC.region ?_
    refine WL.run 1 tt_ok sg0 rfl rfl trivial ?_
    refine WL.nil ?_
    refine QT.n ?_
    refine WC.ret ?_
    refine QT.r ?_
    cases H
    exact Ends.auto rfl rfl rfl trivial
  replace H := of_f H h1
  refine WC.skip ?_
  refine QT.n ?_
  refine WC.seq ?_
  refine WC.seq ?_
  refine WC.region ?_
  refine WL.run 4 tt_ok sg0 rfl rfl trivial ?_
  refine WL.nil ?_
  refine QT.n ?_
  refine WC.cond rfl (fun h2 => ?_) (fun h2 => ?_)
  · replace H := of_t H h2
    refine WC.seq ?_
    refine WC.region ?_
    refine WL.run 1 tt_ok sg0 rfl rfl trivial ?_
    refine WL.nil ?_
    refine QT.n ?_
    refine WC.ret ?_
    refine QT.r ?_
    cases H
    exact Ends.auto rfl rfl rfl trivial
  replace H := of_f H h2
  refine WC.skip ?_
  refine QT.n ?_
  refine WC.seq ?_
  refine WC.seq ?_
  refine WC.region ?_
  refine WL.run 4 tt_ok sg0 rfl rfl trivial ?_
  refine WL.nil ?_
  refine QT.n ?_
  refine WC.cond rfl (fun h3 => ?_) (fun h3 => ?_)
  · replace H := of_t H h3
    refine WC.seq ?_
    refine WC.region ?_
    refine WL.run 1 tt_ok sg0 rfl rfl trivial ?_
    refine WL.nil ?_
    refine QT.n ?_
    refine WC.ret ?_
    refine QT.r ?_
    cases H
    exact Ends.auto rfl rfl rfl trivial
  replace H := of_f H h3
  refine WC.skip ?_
  refine QT.n ?_
  refine WC.seq ?_
  refine WC.seq ?_
  refine WC.region ?_
  refine WL.run 1 tt_ok sg0 rfl rfl trivial ?_
  refine WL.nil ?_
  refine QT.n ?_
  refine WC.block ?_
  refine WC.loop (ι := {x : Nat × Int // ref10_function_l5 a0 x.1 x.2 = some r}) (fun x => [(1, .ptr 101 0), (3, .d (.int .i64 x.1.2))]) (fun x => [(101, .box 58 [.d (.int .i64 a0.Args), .d (.int .i64 a0.Locals), .d (slT enc_api_Ins a0.Code)])]) (fun x => x.1.1) ⟨(fuel, 0), H⟩ (Less.mk' ⟨rfl, rfl, trivial⟩ ⟨rfl, trivial⟩) fun x => ?_
  obtain ⟨⟨k5, s4⟩, H⟩ := x
  rcases k5 with _ | k5
  · exact of_none H
  rw [ref10_function_l5] at H
  refine WC.seq ?_
  refine WC.seq ?_
  refine WC.region ?_
  refine WL.run 5 tt_ok sg0 rfl rfl trivial ?_
  refine WL.nil ?_
  refine QT.n ?_
  refine WC.cond rfl (fun h6 => ?_) (fun h6 => ?_)
  · replace H := of_t H h6
    refine WC.skip ?_
    refine QT.n ?_
    refine WC.seq ?_
    refine WC.block ?_
    refine WC.seq ?_
    refine WC.region ?_
    obtain ⟨g7, H⟩ := of_need H
    refine WL.run 5 tt_ok sg0 rfl rfl ⟨⟨(nIn_ok g7).1, (nIn_ok g7).2, rfl⟩, trivial⟩ ?_
    obtain ⟨x8, hx8, H⟩ := of_bind H
    refine WL.call [] (ref07_Check_0 _ hx8) ref07_Check_f rfl rfl trivial rfl rfl rfl ?_
    refine WL.run 1 tt_ok sg0 rfl rfl trivial ?_
    refine WL.nil ?_
    refine QT.n ?_
    refine WC.seq ?_
    refine WC.region ?_
    refine WL.run 2 tt_ok sg0 rfl rfl trivial ?_
    refine WL.nil ?_
    refine QT.n ?_
    refine WC.cond rfl (fun h9 => ?_) (fun h9 => ?_)
    · replace H := of_t H h9
      refine WC.seq ?_
      refine WC.region ?_
      refine WL.run 2 tt_ok sg0 rfl rfl trivial ?_
      refine WL.nil ?_
      refine QT.n ?_
      refine WC.ret ?_
      refine QB.r (QT.r (QT.r (QB.r (QT.r ?_))))
      cases H
      exact Ends.auto rfl rfl rfl trivial
    replace H := of_f H h9
    refine WC.skip ?_
    refine QB.n (QT.n ?_)
    refine WC.region ?_
    refine WL.run 3 tt_ok sg0 rfl rfl trivial ?_
    refine WL.nil ?_
    refine QT.n ?_
    exact ⟨⟨(k5, IntKind.i64.wrap (s4 + 1)), H⟩, Nat.lt_succ_self _, Less.mk' ⟨rfl, rfl, trivial⟩ ⟨rfl, trivial⟩⟩
  replace H := of_f H h6
  refine WC.exit ?_
  refine QT.x (QT.x (QB.hit (QT.n ?_)))
  refine WC.seq ?_
  refine WC.region ?_
  refine WL.run 1 tt_ok sg0 rfl rfl trivial ?_
  refine WL.nil ?_
  refine QT.n ?_
  refine WC.ret ?_
  cases H
  exact Ends.auto rfl rfl rfl trivial
theorem ref10_function_f : hasFunc Try.prog 69 Try.f69 := ⟨Try.func69, rfl, by kernel_rfl⟩

/-! ### logjam/logjamref10.Check -/
theorem ref10_Check_0 (a0 : T_api_Program) {r : Int} (H : ref10_Check a0 = some r) : LJ.Spec Try.prog 57 [.d (.agg [slT enc_api_Decl a0.Decls, slT enc_sl_sl_api_Need a0.Waits, slT enc_api_Func a0.Funcs])] [] (.d (.int .i64 r)) [] := by
  refine LJ.Spec.code Try.func57 rfl 64 rfl rfl [] rfl fun w0 F0 S0 B0 => ?_
  unfold ref10_Check at H
  refine WC.seq ?_
  refine WC.region ?_
  refine WL.eff 101 tt_ok et_ok eg0 rfl rfl rfl trivial ?_
  refine WL.run 1 tt_ok sg0 rfl rfl trivial ?_
  refine WL.nil ?_
  refine QT.n ?_
  refine WC.seq ?_
  refine WC.seq ?_
  refine WC.region ?_
  refine WL.run 2 tt_ok sg0 rfl rfl trivial ?_
  obtain ⟨x1, hx1, H⟩ := of_bind H
  refine WL.call [] (ref08_Check_0 _ hx1) ref08_Check_f rfl rfl trivial rfl rfl rfl ?_
  refine WL.run 5 tt_ok sg0 rfl rfl trivial ?_
  refine WL.nil ?_
  refine QT.n ?_
  refine WC.seq ?_
  refine WC.region ?_
  refine WL.run 2 tt_ok sg0 rfl rfl trivial ?_
  refine WL.nil ?_
  refine QT.n ?_
  refine WC.cond rfl (fun h2 => ?_) (fun h2 => ?_)
  · replace H := of_t H h2
    refine WC.seq ?_
    refine WC.region ?_
    refine WL.run 2 tt_ok sg0 rfl rfl trivial ?_
    refine WL.nil ?_
    refine QT.n ?_
    refine WC.ret ?_
    refine QT.r ?_
    cases H
    exact Ends.auto rfl rfl rfl trivial
  replace H := of_f H h2
  refine WC.skip ?_
  refine QT.n ?_
  refine WC.seq ?_
  refine WC.seq ?_
  refine WC.region ?_
  refine WL.run 4 tt_ok sg0 rfl rfl trivial ?_
  refine WL.nil ?_
  refine QT.n ?_
  refine WC.cond rfl (fun h3 => ?_) (fun h3 => ?_)
  · replace H := of_t H h3
    refine WC.seq ?_
    refine WC.region ?_
    refine WL.run 1 tt_ok sg0 rfl rfl trivial ?_
    refine WL.nil ?_
    refine QT.n ?_
    refine WC.ret ?_
    refine QT.r ?_
    cases H
    exact Ends.auto rfl rfl rfl trivial
  replace H := of_f H h3
  refine WC.skip ?_
  refine QT.n ?_
  refine WC.seq ?_
  refine WC.seq ?_
  refine WC.region ?_
  refine WL.run 1 tt_ok sg0 rfl rfl trivial ?_
  refine WL.nil ?_
  refine QT.n ?_
  refine WC.block ?_
  refine WC.loop (ι := {x : Nat × Int // ref10_Check_l5 a0 x.1 x.2 = some r}) (fun x => [(1, .ptr 101 0), (5, .d (.int .i64 x.1.2))]) (fun x => [(101, .box 26 [.d (slT enc_api_Decl a0.Decls), .d (slT enc_sl_sl_api_Need a0.Waits), .d (slT enc_api_Func a0.Funcs)])]) (fun x => x.1.1) ⟨(fuel, 0), H⟩ (Less.mk' ⟨rfl, rfl, trivial⟩ ⟨rfl, trivial⟩) fun x => ?_
  obtain ⟨⟨k5, s4⟩, H⟩ := x
  rcases k5 with _ | k5
  · exact of_none H
  rw [ref10_Check_l5] at H
  refine WC.seq ?_
  refine WC.seq ?_
  refine WC.region ?_
  refine WL.run 5 tt_ok sg0 rfl rfl trivial ?_
  refine WL.nil ?_
  refine QT.n ?_
  refine WC.cond rfl (fun h6 => ?_) (fun h6 => ?_)
  · replace H := of_t H h6
    refine WC.skip ?_
    refine QT.n ?_
    refine WC.seq ?_
    refine WC.block ?_
    refine WC.seq ?_
    refine WC.heldP (.one 0 true (.one 1 true (.one 2 true (.one 3 true (.one 4 true (.one 5 true (.one 6 true (.one 7 false (.one 8 true .done))))))))) [101] [101] rfl (by kernel_rfl) rfl (by kernel_rfl) rfl rfl (fun _ h => h) rfl rfl rfl (fun _ _ _ h => h) fun FK NK wK K => ?_
    obtain ⟨g7, H⟩ := of_need H
    refine WH.run 7 tt_ok rfl rfl rfl rfl ⟨⟨(nIn_ok g7).1, (nIn_ok g7).2, rfl⟩, trivial⟩ ?_
    obtain ⟨x8, hx8, H⟩ := of_bind H
    refine WH.call [] rfl (ref09_Check_0 _ _ hx8) ref09_Check_f rfl rfl trivial rfl rfl rfl rfl rfl ?_
    refine WH.run 1 tt_ok rfl rfl rfl rfl trivial ?_
    refine WH.nil rfl ?_
    refine QT.n ?_
    refine WC.seq ?_
    refine WC.region ?_
    refine WL.run 2 tt_ok sg0 rfl rfl trivial ?_
    refine WL.nil ?_
    refine QT.n ?_
    refine WC.cond rfl (fun h9 => ?_) (fun h9 => ?_)
    · replace H := of_t H h9
      refine WC.seq ?_
      refine WC.region ?_
      refine WL.run 2 tt_ok sg0 rfl rfl trivial ?_
      refine WL.nil ?_
      refine QT.n ?_
      refine WC.ret ?_
      refine QB.r (QT.r (QT.r (QB.r (QT.r ?_))))
      cases H
      exact Ends.auto rfl rfl rfl trivial
    replace H := of_f H h9
    refine WC.skip ?_
    refine QB.n (QT.n ?_)
    refine WC.region ?_
    refine WL.run 3 tt_ok sg0 rfl rfl trivial ?_
    refine WL.nil ?_
    refine QT.n ?_
    exact ⟨⟨(k5, IntKind.i64.wrap (s4 + 1)), H⟩, Nat.lt_succ_self _, Less.mk' ⟨rfl, rfl, trivial⟩ ⟨rfl, trivial⟩⟩
  replace H := of_f H h6
  refine WC.exit ?_
  refine QT.x (QT.x (QB.hit (QT.n ?_)))
  refine WC.seq ?_
  refine WC.seq ?_
  refine WC.region ?_
  refine WL.run 4 tt_ok sg0 rfl rfl trivial ?_
  refine WL.nil ?_
  refine QT.n ?_
  refine WC.cond rfl (fun h10 => ?_) (fun h10 => ?_)
  · replace H := of_t H h10
    refine WC.seq ?_
    refine WC.region ?_
    refine WL.run 1 tt_ok sg0 rfl rfl trivial ?_
    refine WL.nil ?_
    refine QT.n ?_
    refine WC.ret ?_
    refine QT.r ?_
    cases H
    exact Ends.auto rfl rfl rfl trivial
  replace H := of_f H h10
  refine WC.skip ?_
  refine QT.n ?_
  refine WC.seq ?_
  refine WC.seq ?_
  refine WC.region ?_
  refine WL.run 4 tt_ok sg0 rfl rfl trivial ?_
  refine WL.nil ?_
  refine QT.n ?_
  refine WC.cond rfl (fun h11 => ?_) (fun h11 => ?_)
  · replace H := of_t H h11
    refine WC.seq ?_
    refine WC.region ?_
    refine WL.run 1 tt_ok sg0 rfl rfl trivial ?_
    refine WL.nil ?_
    refine QT.n ?_
    refine WC.ret ?_
    refine QT.r ?_
    cases H
    exact Ends.auto rfl rfl rfl trivial
  replace H := of_f H h11
  refine WC.skip ?_
  refine QT.n ?_
  refine WC.seq ?_
  refine WC.seq ?_
  refine WC.region ?_
  refine WL.run 1 tt_ok sg0 rfl rfl trivial ?_
  refine WL.nil ?_
  refine QT.n ?_
  refine WC.block ?_
  refine WC.loop (ι := {x : Nat × Int // ref10_Check_l13 a0 x.1 x.2 = some r}) (fun x => [(1, .ptr 101 0), (7, .d (.int .i64 x.1.2))]) (fun x => [(101, .box 26 [.d (slT enc_api_Decl a0.Decls), .d (slT enc_sl_sl_api_Need a0.Waits), .d (slT enc_api_Func a0.Funcs)])]) (fun x => x.1.1) ⟨(fuel, 0), H⟩ (Less.mk' ⟨rfl, rfl, trivial⟩ ⟨rfl, trivial⟩) fun x => ?_
  obtain ⟨⟨k13, s12⟩, H⟩ := x
  rcases k13 with _ | k13
  · exact of_none H
  rw [ref10_Check_l13] at H
  refine WC.seq ?_
  refine WC.seq ?_
  refine WC.region ?_
  refine WL.run 5 tt_ok sg0 rfl rfl trivial ?_
  refine WL.nil ?_
  refine QT.n ?_
  refine WC.cond rfl (fun h14 => ?_) (fun h14 => ?_)
  · replace H := of_t H h14
    refine WC.skip ?_
    refine QT.n ?_
    refine WC.seq ?_
    refine WC.block ?_
    refine WC.seq ?_
    refine WC.region ?_
    obtain ⟨g15, H⟩ := of_need H
    refine WL.run 5 tt_ok sg0 rfl rfl ⟨⟨(nIn_ok g15).1, (nIn_ok g15).2, rfl⟩, trivial⟩ ?_
    obtain ⟨x16, hx16, H⟩ := of_bind H
    refine WL.call [] (ref10_function_0 _ hx16) ref10_function_f rfl rfl trivial rfl rfl rfl ?_
    refine WL.run 1 tt_ok sg0 rfl rfl trivial ?_
    refine WL.nil ?_
    refine QT.n ?_
    refine WC.seq ?_
    refine WC.region ?_
    refine WL.run 2 tt_ok sg0 rfl rfl trivial ?_
    refine WL.nil ?_
    refine QT.n ?_
    refine WC.cond rfl (fun h17 => ?_) (fun h17 => ?_)
    · replace H := of_t H h17
      refine WC.seq ?_
      refine WC.region ?_
      refine WL.run 2 tt_ok sg0 rfl rfl trivial ?_
      refine WL.nil ?_
      refine QT.n ?_
      refine WC.ret ?_
      refine QB.r (QT.r (QT.r (QB.r (QT.r ?_))))
      cases H
      exact Ends.auto rfl rfl rfl trivial
    replace H := of_f H h17
    refine WC.skip ?_
    refine QB.n (QT.n ?_)
    refine WC.region ?_
    refine WL.run 3 tt_ok sg0 rfl rfl trivial ?_
    refine WL.nil ?_
    refine QT.n ?_
    exact ⟨⟨(k13, IntKind.i64.wrap (s12 + 1)), H⟩, Nat.lt_succ_self _, Less.mk' ⟨rfl, rfl, trivial⟩ ⟨rfl, trivial⟩⟩
  replace H := of_f H h14
  refine WC.exit ?_
  refine QT.x (QT.x (QB.hit (QT.n ?_)))
  refine WC.seq ?_
  refine WC.region ?_
  refine WL.run 1 tt_ok sg0 rfl rfl trivial ?_
  refine WL.nil ?_
  refine QT.n ?_
  refine WC.ret ?_
  cases H
  exact Ends.auto rfl rfl rfl trivial
theorem ref10_Check_f : hasFunc Try.prog 57 Try.f57 := ⟨Try.func57, rfl, by kernel_rfl⟩

/-! ### logjam/logjamref12.object -/
theorem ref12_object_0 (a0 : Int) {r : Bool} (H : ref12_object a0 = some r) : LJ.Spec Try.prog 71 [.d (.int .u8 a0)] [] (.d (.bool r)) [] := by
  refine LJ.Spec.code Try.func71 rfl 25 rfl rfl [] rfl fun w0 F0 S0 B0 => ?_
  unfold ref12_object at H
  refine WC.seq ?_
  refine WC.region ?_
  refine WL.run 1 tt_ok sg0 rfl rfl trivial ?_
  refine WL.nil ?_
  refine QT.n ?_
  refine WC.seq ?_
  refine WC.region ?_
  refine WL.run 3 tt_ok sg0 rfl rfl trivial ?_
  refine WL.sect 2 2 true tt_ok sg0 rfl rfl (fun _ => trivial) ?_
  refine WL.run 2 tt_ok sg0 rfl rfl ⟨by first | exact id | exact fun h => by rw [h]; rfl | simp_all, trivial⟩ ?_
  refine WL.sect 2 6 true tt_ok sg0 rfl rfl (fun _ => trivial) ?_
  refine WL.run 2 tt_ok sg0 rfl rfl ⟨by first | exact id | exact fun h => by rw [h]; rfl | simp_all, trivial⟩ ?_
  refine WL.sect 2 10 true tt_ok sg0 rfl rfl (fun _ => trivial) ?_
  refine WL.run 2 tt_ok sg0 rfl rfl ⟨by first | exact id | exact fun h => by rw [h]; rfl | simp_all, trivial⟩ ?_
  refine WL.sect 2 14 true tt_ok sg0 rfl rfl (fun _ => trivial) ?_
  refine WL.run 2 tt_ok sg0 rfl rfl ⟨by first | exact id | exact fun h => by rw [h]; rfl | simp_all, trivial⟩ ?_
  refine WL.sect 2 18 true tt_ok sg0 rfl rfl (fun _ => trivial) ?_
  refine WL.run 2 tt_ok sg0 rfl rfl ⟨by first | exact id | exact fun h => by rw [h]; rfl | simp_all, trivial⟩ ?_
  refine WL.nil ?_
  refine QT.n ?_
  refine WC.ret ?_
  cases H
  exact Ends.auto rfl rfl rfl trivial
theorem ref12_object_f : hasFunc Try.prog 71 Try.f71 := ⟨Try.func71, rfl, by kernel_rfl⟩

/-! ### logjam/logjamref12.operand -/
theorem ref12_operand_0 (a0 : T_api_Program) (a1 : T_api_Func) (a2 : T_api_Ins) (a3 : Int) (a4 : Int) {r : Int} (H : ref12_operand a0 a1 a2 a3 a4 = some r) : LJ.Spec Try.prog 59 [.d (.agg [slT enc_api_Decl a0.Decls, slT enc_sl_sl_api_Need a0.Waits, slT enc_api_Func a0.Funcs]), .d (.agg [.int .i64 a1.Args, .int .i64 a1.Locals, slT enc_api_Ins a1.Code]), .d (.agg [.int .i64 a2.Op, .int .i64 a2.A, .int .i64 a2.B]), .d (.int .u8 a3), .d (.int .i64 a4)] [] (.d (.int .i64 r)) [] := by
  refine LJ.Spec.code Try.func59 rfl 74 rfl rfl [] rfl fun w0 F0 S0 B0 => ?_
  unfold ref12_operand at H
  refine WC.seq ?_
  refine WC.region ?_
  refine WL.eff 105 tt_ok et_ok eg0 rfl rfl rfl trivial ?_
  refine WL.eff 106 tt_ok et_ok eg0 rfl rfl rfl trivial ?_
  refine WL.eff 107 tt_ok et_ok eg0 rfl rfl rfl trivial ?_
  refine WL.run 1 tt_ok sg0 rfl rfl trivial ?_
  refine WL.nil ?_
  refine QT.n ?_
  refine WC.seq ?_
  refine WC.seq ?_
  refine WC.region ?_
  refine WL.run 3 tt_ok sg0 rfl rfl trivial ?_
  refine WL.sect 4 2 true tt_ok sg0 rfl rfl (fun _ => trivial) ?_
  refine WL.run 2 tt_ok sg0 rfl rfl ⟨by first | exact id | exact fun h => by rw [h]; rfl | simp_all, trivial⟩ ?_
  refine WL.sect 3 8 false tt_ok sg0 rfl rfl (fun _ => trivial) ?_
  refine WL.sect 5 11 true tt_ok sg0 rfl rfl (fun _ => trivial) ?_
  refine WL.sect 1 8 false tt_ok sg0 rfl rfl (fun hb => ⟨by first | exact id | exact ⟨hb, fun h => by rw [hb, h]; rfl⟩ | exact ⟨hb, id⟩ | exact fun h => by rw [hb, h]; rfl | exact fun h => by rw [h]; rfl | simp_all, trivial⟩) ?_
  refine WL.run 2 tt_ok sg0 rfl rfl ⟨by first | exact id | exact fun h => by rw [h]; rfl | simp_all, trivial⟩ ?_
  refine WL.sect 3 19 false tt_ok sg0 rfl rfl (fun _ => trivial) ?_
  refine WL.sect 5 22 true tt_ok sg0 rfl rfl (fun _ => trivial) ?_
  refine WL.sect 1 19 false tt_ok sg0 rfl rfl (fun hb => ⟨by first | exact id | exact ⟨hb, fun h => by rw [hb, h]; rfl⟩ | exact ⟨hb, id⟩ | exact fun h => by rw [hb, h]; rfl | exact fun h => by rw [h]; rfl | simp_all, trivial⟩) ?_
  refine WL.run 1 tt_ok sg0 rfl rfl ⟨by first | exact id | exact fun h => by rw [h]; rfl | simp_all, trivial⟩ ?_
  refine WL.nil ?_
  refine QT.n ?_
  refine WC.cond rfl (fun h1 => ?_) (fun h1 => ?_)
  · replace H := of_t H h1
    refine WC.seq ?_
    refine WC.region ?_
    refine WL.run 1 tt_ok sg0 rfl rfl trivial ?_
    refine WL.nil ?_
    refine QT.n ?_
    refine WC.ret ?_
    refine QT.r ?_
    cases H
    exact Ends.auto rfl rfl rfl trivial
  replace H := of_f H h1
  refine WC.skip ?_
  refine QT.n ?_
  refine WC.seq ?_
  refine WC.seq ?_
  refine WC.region ?_
  refine WL.run 3 tt_ok sg0 rfl rfl trivial ?_
  refine WL.sect 6 2 true tt_ok sg0 rfl rfl (fun _ => trivial) ?_
  refine WL.sect 4 8 false tt_ok sg0 rfl rfl (fun _ => trivial) ?_
  obtain ⟨g2, H⟩ := of_needS H
  refine WL.sect 7 12 true tt_ok sg0 rfl rfl (fun hb => ⟨⟨(nIn_ok (g2 hb)).1, (nIn_ok (g2 hb)).2, rfl⟩, trivial⟩) ?_
  refine WL.sect 1 8 false tt_ok sg0 rfl rfl (fun hb => ⟨by first | exact id | exact ⟨hb, fun h => by rw [hb, h]; rfl⟩ | exact ⟨hb, id⟩ | exact fun h => by rw [hb, h]; rfl | exact fun h => by rw [h]; rfl | simp_all, trivial⟩) ?_
  refine WL.sect 1 2 true tt_ok sg0 rfl rfl (fun hb => ⟨by first | exact id | exact ⟨hb, fun h => by rw [hb, h]; rfl⟩ | exact ⟨hb, id⟩ | exact fun h => by rw [hb, h]; rfl | exact fun h => by rw [h]; rfl | simp_all, trivial⟩) ?_
  refine WL.run 1 tt_ok sg0 rfl rfl ⟨by first | exact id | exact fun h => by rw [h]; rfl | simp_all, trivial⟩ ?_
  refine WL.nil ?_
  refine QT.n ?_
  refine WC.cond rfl (fun h3 => ?_) (fun h3 => ?_)
  · replace H := of_t H h3
    refine WC.seq ?_
    refine WC.region ?_
    refine WL.run 1 tt_ok sg0 rfl rfl trivial ?_
    refine WL.nil ?_
    refine QT.n ?_
    refine WC.ret ?_
    refine QT.r ?_
    cases H
    exact Ends.auto rfl rfl rfl trivial
  replace H := of_f H h3
  refine WC.skip ?_
  refine QT.n ?_
  refine WC.seq ?_
  refine WC.seq ?_
  refine WC.region ?_
  refine WL.run 1 tt_ok sg0 rfl rfl trivial ?_
  obtain ⟨x4, hx4, H⟩ := of_bind H
  refine WL.call [] (ref12_object_0 _ hx4) ref12_object_f rfl rfl trivial rfl rfl rfl ?_
  refine WL.run 1 tt_ok sg0 rfl rfl trivial ?_
  obtain ⟨x5, hx5, H⟩ := of_bind H
  refine WL.sect 6 2 true tt_ok [PSig.at' ref08_Fits_f (x4 = true) rfl (fun hb => ref08_Fits_0 _ _ _ (of_t hx5 hb))] rfl rfl (fun hb => ⟨⟨hb, rfl⟩, trivial⟩) ?_
  refine WL.run 1 tt_ok sg0 rfl rfl ⟨by first | exact id | exact fun h => by rw [h]; rfl | simp_all, trivial⟩ ?_
  refine WL.nil ?_
  refine QT.n ?_
  refine WC.cond rfl (fun h6 => ?_) (fun h6 => ?_)
  · replace H := of_t H h6
    refine WC.seq ?_
    refine WC.region ?_
    refine WL.run 1 tt_ok sg0 rfl rfl trivial ?_
    refine WL.nil ?_
    refine QT.n ?_
    refine WC.ret ?_
    refine QT.r ?_
    cases H
    exact Ends.auto rfl rfl rfl trivial
  replace H := of_f H h6
  refine WC.skip ?_
  refine QT.n ?_
  refine WC.seq ?_
  refine WC.region ?_
  refine WL.run 1 tt_ok sg0 rfl rfl trivial ?_
  refine WL.nil ?_
  refine QT.n ?_
  refine WC.ret ?_
  cases H
  exact Ends.auto rfl rfl rfl trivial
theorem ref12_operand_f : hasFunc Try.prog 59 Try.f59 := ⟨Try.func59, rfl, by kernel_rfl⟩

/-! ### logjam/logjamref06.Takes -/
theorem ref06_Takes_0  {r : List Int} (H : ref06_Takes = some r) : LJ.Spec Try.prog 50 [] [] (.d (slT enc_i64 r)) [] := by
  refine LJ.Spec.code Try.func50 rfl 2 rfl rfl [] rfl fun w0 F0 S0 B0 => ?_
  unfold ref06_Takes at H
  refine WC.seq ?_
  refine WC.region ?_
  refine WL.run 1 tt_ok sg0 rfl rfl trivial ?_
  refine WL.nil ?_
  refine QT.n ?_
  refine WC.seq ?_
  refine WC.region ?_
  refine WL.eff 101 tt_ok et_ok eg0 rfl rfl rfl trivial ?_
  refine WL.freezeT 101 enc_i64 ([0, 0, 1, 2, 2, 2, 2, 2, 1, 2, 2, 2, 2, 2, 2, 2, 1, 1, 0, 1, 0, 1, 0, 0, 1, 0, 0, 1, 1, 0, 1, 1, 0, 1, 0, 0, 0, 0, 0, 1, 2, 0, 1, 2, 1, 0, 1, 0, 0, 1, 0, 0] : List Int) rfl rfl rfl rfl ?_
  refine WL.run 1 tt_ok sg0 rfl rfl trivial ?_
  refine WL.nil ?_
  refine QT.n ?_
  refine WC.ret ?_
  cases H
  exact Ends.auto rfl rfl rfl trivial
theorem ref06_Takes_f : hasFunc Try.prog 50 Try.f50 := ⟨Try.func50, rfl, by kernel_rfl⟩

/-! ### logjam/logjamref06.Pops -/
theorem ref06_Pops_0 (a0 : T_api_Ins) (a1 : Int) {r : Int} (H : ref06_Pops a0 a1 = some r) : LJ.Spec Try.prog 31 [.d (.agg [.int .i64 a0.Op, .int .i64 a0.A, .int .i64 a0.B]), .d (.int .i64 a1)] [] (.d (.int .i64 r)) [] := by
  refine LJ.Spec.code Try.func31 rfl 34 rfl rfl [] rfl fun w0 F0 S0 B0 => ?_
  unfold ref06_Pops at H
  refine WC.seq ?_
  refine WC.region ?_
  refine WL.eff 102 tt_ok et_ok eg0 rfl rfl rfl trivial ?_
  refine WL.run 1 tt_ok sg0 rfl rfl trivial ?_
  refine WL.nil ?_
  refine QT.n ?_
  refine WC.seq ?_
  refine WC.seq ?_
  refine WC.region ?_
  refine WL.run 2 tt_ok sg0 rfl rfl trivial ?_
  obtain ⟨x1, hx1, H⟩ := of_bind H
  refine WL.call [] (ref06_Known_0 _ hx1) ref06_Known_f rfl rfl trivial rfl rfl rfl ?_
  refine WL.run 1 tt_ok sg0 rfl rfl trivial ?_
  refine WL.nil ?_
  refine QT.n ?_
  refine WC.cond rfl (fun h2 => ?_) (fun h2 => ?_)
  · replace H := of_t H h2
    refine WC.seq ?_
    refine WC.region ?_
    refine WL.run 1 tt_ok sg0 rfl rfl trivial ?_
    refine WL.nil ?_
    refine QT.n ?_
    refine WC.ret ?_
    refine QT.r ?_
    cases H
    exact Ends.auto rfl rfl rfl trivial
  replace H := of_f H h2
  refine WC.skip ?_
  refine QT.n ?_
  refine WC.seq ?_
  refine WC.seq ?_
  refine WC.region ?_
  refine WL.run 3 tt_ok sg0 rfl rfl trivial ?_
  refine WL.nil ?_
  refine QT.n ?_
  refine WC.cond rfl (fun h3 => ?_) (fun h3 => ?_)
  · replace H := of_t H h3
    refine WC.seq ?_
    refine WC.region ?_
    refine WL.run 2 tt_ok sg0 rfl rfl trivial ?_
    refine WL.nil ?_
    refine QT.n ?_
    refine WC.ret ?_
    refine QT.r ?_
    cases H
    exact Ends.auto rfl rfl rfl trivial
  replace H := of_f H h3
  refine WC.skip ?_
  refine QT.n ?_
  refine WC.seq ?_
  refine WC.seq ?_
  refine WC.region ?_
  refine WL.run 4 tt_ok sg0 rfl rfl trivial ?_
  refine WL.sect 3 3 false tt_ok sg0 rfl rfl (fun _ => trivial) ?_
  refine WL.run 1 tt_ok sg0 rfl rfl ⟨by first | exact id | exact fun h => by rw [h]; rfl | simp_all, trivial⟩ ?_
  refine WL.nil ?_
  refine QT.n ?_
  refine WC.cond rfl (fun h4 => ?_) (fun h4 => ?_)
  · replace H := of_t H h4
    refine WC.seq ?_
    refine WC.heldP (.one 1 true (.one 2 true (.one 5 true (.one 6 true (.one 0 false (.one 3 false (.one 4 false (.one 7 true (.one 8 true .done))))))))) [102] [102] rfl (by kernel_rfl) rfl (by kernel_rfl) rfl rfl (fun _ h => h) rfl rfl rfl (fun _ _ _ h => h) fun FK NK wK K => ?_
    refine WH.run 4 tt_ok rfl rfl rfl rfl trivial ?_
    obtain ⟨x5, hx5, H⟩ := of_bind H
    refine WH.call [] rfl (ref06_Takes_0 hx5) ref06_Takes_f rfl rfl trivial rfl rfl rfl rfl rfl ?_
    obtain ⟨g6, H⟩ := of_need H
    refine WH.val tt_ok rfl rfl rfl rfl rfl ⟨(nIn_ok g6).1, (nIn_ok g6).2, rfl⟩ rfl rfl ?_
    refine WH.val tt_ok rfl rfl rfl rfl rfl trivial rfl rfl ?_
    refine WH.run 2 tt_ok rfl rfl rfl rfl trivial ?_
    refine WH.nil rfl ?_
    refine QT.n ?_
    refine WC.ret ?_
    refine QT.r ?_
    cases H
    exact Ends.auto rfl rfl rfl trivial
  replace H := of_f H h4
  refine WC.skip ?_
  refine QT.n ?_
  refine WC.seq ?_
  refine WC.heldP (.one 1 true (.one 2 true (.one 0 false (.one 3 false (.one 4 false (.one 5 true .done)))))) [102] [102] rfl (by kernel_rfl) rfl (by kernel_rfl) rfl rfl (fun _ h => h) rfl rfl rfl (fun _ _ _ h => h) fun FK NK wK K => ?_
  refine WH.run 2 tt_ok rfl rfl rfl rfl trivial ?_
  obtain ⟨x7, hx7, H⟩ := of_bind H
  refine WH.call [] rfl (ref06_Takes_0 hx7) ref06_Takes_f rfl rfl trivial rfl rfl rfl rfl rfl ?_
  obtain ⟨g8, H⟩ := of_need H
  refine WH.val tt_ok rfl rfl rfl rfl rfl ⟨(nIn_ok g8).1, (nIn_ok g8).2, rfl⟩ rfl rfl ?_
  refine WH.val tt_ok rfl rfl rfl rfl rfl trivial rfl rfl ?_
  refine WH.run 1 tt_ok rfl rfl rfl rfl trivial ?_
  refine WH.nil rfl ?_
  refine QT.n ?_
  refine WC.ret ?_
  cases H
  exact Ends.auto rfl rfl rfl trivial
theorem ref06_Pops_f : hasFunc Try.prog 31 Try.f31 := ⟨Try.func31, rfl, by kernel_rfl⟩

/-! ### logjam/logjamref06.Lays -/
theorem ref06_Lays_0  {r : List Int} (H : ref06_Lays = some r) : LJ.Spec Try.prog 38 [] [] (.d (slT enc_i64 r)) [] := by
  refine LJ.Spec.code Try.func38 rfl 2 rfl rfl [] rfl fun w0 F0 S0 B0 => ?_
  unfold ref06_Lays at H
  refine WC.seq ?_
  refine WC.region ?_
  refine WL.run 1 tt_ok sg0 rfl rfl trivial ?_
  refine WL.nil ?_
  refine QT.n ?_
  refine WC.seq ?_
  refine WC.region ?_
  refine WL.eff 101 tt_ok et_ok eg0 rfl rfl rfl trivial ?_
  refine WL.freezeT 101 enc_i64 ([1, 1, 0, 1, 1, 1, 1, 1, 1, 1, 1, 1, 1, 1, 1, 1, 2, 0, 0, 0, 1, 0, 1, 1, 1, 0, 1, 1, 1, 1, 1, 1, 1, 1, 1, 1, 1, 1, 1, 1, 1, 1, 1, 1, 1, 2, 1, 1, 1, 1, 1, 1] : List Int) rfl rfl rfl rfl ?_
  refine WL.run 1 tt_ok sg0 rfl rfl trivial ?_
  refine WL.nil ?_
  refine QT.n ?_
  refine WC.ret ?_
  cases H
  exact Ends.auto rfl rfl rfl trivial
theorem ref06_Lays_f : hasFunc Try.prog 38 Try.f38 := ⟨Try.func38, rfl, by kernel_rfl⟩

/-! ### logjam/logjamref06.Pushes -/
theorem ref06_Pushes_0 (a0 : Int) {r : Int} (H : ref06_Pushes a0 = some r) : LJ.Spec Try.prog 14 [.d (.int .i64 a0)] [] (.d (.int .i64 r)) [] := by
  refine LJ.Spec.code Try.func14 rfl 10 rfl rfl [] rfl fun w0 F0 S0 B0 => ?_
  unfold ref06_Pushes at H
  refine WC.seq ?_
  refine WC.region ?_
  refine WL.run 1 tt_ok sg0 rfl rfl trivial ?_
  refine WL.nil ?_
  refine QT.n ?_
  refine WC.seq ?_
  refine WC.seq ?_
  refine WC.region ?_
  refine WL.run 1 tt_ok sg0 rfl rfl trivial ?_
  obtain ⟨x1, hx1, H⟩ := of_bind H
  refine WL.call [] (ref06_Known_0 _ hx1) ref06_Known_f rfl rfl trivial rfl rfl rfl ?_
  refine WL.run 1 tt_ok sg0 rfl rfl trivial ?_
  refine WL.nil ?_
  refine QT.n ?_
  refine WC.cond rfl (fun h2 => ?_) (fun h2 => ?_)
  · replace H := of_t H h2
    refine WC.seq ?_
    refine WC.region ?_
    refine WL.run 1 tt_ok sg0 rfl rfl trivial ?_
    refine WL.nil ?_
    refine QT.n ?_
    refine WC.ret ?_
    refine QT.r ?_
    cases H
    exact Ends.auto rfl rfl rfl trivial
  replace H := of_f H h2
  refine WC.skip ?_
  refine QT.n ?_
  refine WC.seq ?_
  refine WC.region ?_
  obtain ⟨x3, hx3, H⟩ := of_bind H
  refine WL.call [] (ref06_Lays_0 hx3) ref06_Lays_f rfl rfl trivial rfl rfl rfl ?_
  obtain ⟨g4, H⟩ := of_need H
  refine WL.run 4 tt_ok sg0 rfl rfl ⟨⟨(nIn_ok g4).1, (nIn_ok g4).2, rfl⟩, trivial⟩ ?_
  refine WL.nil ?_
  refine QT.n ?_
  refine WC.ret ?_
  cases H
  exact Ends.auto rfl rfl rfl trivial
theorem ref06_Pushes_f : hasFunc Try.prog 14 Try.f14 := ⟨Try.func14, rfl, by kernel_rfl⟩

/-! ### logjam/logjamref11.Behind -/
theorem ref11_Behind_0 (a0 : T_api_Program) (a1 : T_api_Ins) (a2 : Int) {r : Int} (H : ref11_Behind a0 a1 a2 = some r) : LJ.Spec Try.prog 55 [.d (.agg [slT enc_api_Decl a0.Decls, slT enc_sl_sl_api_Need a0.Waits, slT enc_api_Func a0.Funcs]), .d (.agg [.int .i64 a1.Op, .int .i64 a1.A, .int .i64 a1.B]), .d (.int .i64 a2)] [] (.d (.int .i64 r)) [] := by
  refine LJ.Spec.code Try.func55 rfl 39 rfl rfl [] rfl fun w0 F0 S0 B0 => ?_
  unfold ref11_Behind at H
  refine WC.seq ?_
  refine WC.region ?_
  refine WL.eff 103 tt_ok et_ok eg0 rfl rfl rfl trivial ?_
  refine WL.eff 104 tt_ok et_ok eg0 rfl rfl rfl trivial ?_
  refine WL.run 1 tt_ok sg0 rfl rfl trivial ?_
  refine WL.nil ?_
  refine QT.n ?_
  refine WC.seq ?_
  refine WC.region ?_
  refine WL.run 1 tt_ok sg0 rfl rfl trivial ?_
  refine WL.nil ?_
  refine QT.n ?_
  refine WC.seq ?_
  refine WC.seq ?_
  refine WC.region ?_
  refine WL.run 4 tt_ok sg0 rfl rfl trivial ?_
  refine WL.sect 6 3 true tt_ok sg0 rfl rfl (fun _ => trivial) ?_
  refine WL.run 1 tt_ok sg0 rfl rfl ⟨by first | exact id | exact fun h => by rw [h]; rfl | simp_all, trivial⟩ ?_
  refine WL.nil ?_
  refine QT.n ?_
  refine WC.cond rfl (fun h1 => ?_) (fun h1 => ?_)
  · replace H := of_t H h1
    refine WC.region ?_
    obtain ⟨g2, H⟩ := of_need H
    refine WL.run 8 tt_ok sg0 rfl rfl ⟨⟨(nIn_ok g2).1, (nIn_ok g2).2, rfl⟩, trivial⟩ ?_
    refine WL.nil ?_
    refine QT.n ?_
    refine WC.seq ?_
    refine WC.region ?_
    refine WL.run 3 tt_ok sg0 rfl rfl trivial ?_
    obtain ⟨x3, hx3, H⟩ := of_bind H
    refine WL.call [] (ref06_Pops_0 _ _ hx3) ref06_Pops_f rfl rfl trivial rfl rfl rfl ?_
    refine WL.run 2 tt_ok sg0 rfl rfl trivial ?_
    refine WL.nil ?_
    refine QT.n ?_
    refine WC.seq ?_
    refine WC.seq ?_
    refine WC.region ?_
    refine WL.run 2 tt_ok sg0 rfl rfl trivial ?_
    refine WL.nil ?_
    refine QT.n ?_
    refine WC.cond rfl (fun h4 => ?_) (fun h4 => ?_)
    · replace H := of_t H h4
      refine WC.seq ?_
      refine WC.region ?_
      refine WL.run 1 tt_ok sg0 rfl rfl trivial ?_
      refine WL.nil ?_
      refine QT.n ?_
      refine WC.ret ?_
      refine QT.r ?_
      cases H
      exact Ends.auto rfl rfl rfl trivial
    replace H := of_f H h4
    refine WC.skip ?_
    refine QT.n ?_
    refine WC.seq ?_
    refine WC.region ?_
    refine WL.run 3 tt_ok sg0 rfl rfl trivial ?_
    obtain ⟨x5, hx5, H⟩ := of_bind H
    refine WL.call [] (ref06_Pushes_0 _ hx5) ref06_Pushes_f rfl rfl trivial rfl rfl rfl ?_
    refine WL.run 2 tt_ok sg0 rfl rfl trivial ?_
    refine WL.nil ?_
    refine QT.n ?_
    refine WC.ret ?_
    cases H
    exact Ends.auto rfl rfl rfl trivial
  replace H := of_f H h1
  refine WC.skip ?_
  refine QT.n ?_
  refine WC.seq ?_
  refine WC.region ?_
  refine WL.run 3 tt_ok sg0 rfl rfl trivial ?_
  obtain ⟨x6, hx6, H⟩ := of_bind H
  refine WL.call [] (ref06_Pops_0 _ _ hx6) ref06_Pops_f rfl rfl trivial rfl rfl rfl ?_
  refine WL.run 2 tt_ok sg0 rfl rfl trivial ?_
  refine WL.nil ?_
  refine QT.n ?_
  refine WC.seq ?_
  refine WC.seq ?_
  refine WC.region ?_
  refine WL.run 2 tt_ok sg0 rfl rfl trivial ?_
  refine WL.nil ?_
  refine QT.n ?_
  refine WC.cond rfl (fun h7 => ?_) (fun h7 => ?_)
  · replace H := of_t H h7
    refine WC.seq ?_
    refine WC.region ?_
    refine WL.run 1 tt_ok sg0 rfl rfl trivial ?_
    refine WL.nil ?_
    refine QT.n ?_
    refine WC.ret ?_
    refine QT.r ?_
    cases H
    exact Ends.auto rfl rfl rfl trivial
  replace H := of_f H h7
  refine WC.skip ?_
  refine QT.n ?_
  refine WC.seq ?_
  refine WC.region ?_
  refine WL.run 3 tt_ok sg0 rfl rfl trivial ?_
  obtain ⟨x8, hx8, H⟩ := of_bind H
  refine WL.call [] (ref06_Pushes_0 _ hx8) ref06_Pushes_f rfl rfl trivial rfl rfl rfl ?_
  refine WL.run 2 tt_ok sg0 rfl rfl trivial ?_
  refine WL.nil ?_
  refine QT.n ?_
  refine WC.ret ?_
  cases H
  exact Ends.auto rfl rfl rfl trivial
theorem ref11_Behind_f : hasFunc Try.prog 55 Try.f55 := ⟨Try.func55, rfl, by kernel_rfl⟩

/-! ### logjam/logjamref11.ways -/
theorem ref11_ways_0 (a0 : T_api_Ins) (a1 : Int) {r : List Int} (H : ref11_ways a0 a1 = some r) : LJ.Spec Try.prog 56 [.d (.agg [.int .i64 a0.Op, .int .i64 a0.A, .int .i64 a0.B]), .d (.int .i64 a1)] [] (.d (slT enc_i64 r)) [] := by
  refine LJ.Spec.code Try.func56 rfl 34 rfl rfl [] rfl fun w0 F0 S0 B0 => ?_
  unfold ref11_ways at H
  refine WC.seq ?_
  refine WC.region ?_
  refine WL.eff 102 tt_ok et_ok eg0 rfl rfl rfl trivial ?_
  refine WL.run 1 tt_ok sg0 rfl rfl trivial ?_
  refine WL.nil ?_
  refine QT.n ?_
  refine WC.seq ?_
  refine WC.region ?_
  refine WL.eff 106 tt_ok et_ok eg0 rfl rfl rfl trivial ?_
  refine WL.run 1 tt_ok sg0 rfl rfl trivial ?_
  refine WL.nil ?_
  refine QT.n ?_
  refine WC.seq ?_
  refine WC.seq ?_
  refine WC.region ?_
  refine WL.run 4 tt_ok sg0 rfl rfl trivial ?_
  refine WL.sect 3 3 true tt_ok sg0 rfl rfl (fun _ => trivial) ?_
  refine WL.run 1 tt_ok sg0 rfl rfl ⟨by first | exact id | exact fun h => by rw [h]; rfl | simp_all, trivial⟩ ?_
  refine WL.nil ?_
  refine QT.n ?_
  refine WC.cond rfl (fun h1 => ?_) (fun h1 => ?_)
  · replace H := of_t H h1
    refine WC.region ?_
    refine WL.run 3 tt_ok sg0 rfl rfl trivial ?_
    refine WL.eff 118 tt_ok et_ok eg0 rfl rfl rfl trivial ?_
    refine WL.freezeT 118 enc_i64 ([IntKind.i64.wrap (a1 + 1)] : List Int) rfl rfl rfl rfl ?_
    refine WL.row 106 (([] : List Int).map enc_i64) rfl rfl rfl ?_
    obtain ⟨g2, H⟩ := of_need H
    refine WL.appT enc_i64 ([] : List Int) ([IntKind.i64.wrap (a1 + 1)] : List Int) tt_ok et_ok rfl rfl (fun _ => rfl) (fun _ => rfl) rfl rfl rfl rfl (nCap_ok g2) rfl rfl rfl rfl rfl ?_
    refine WL.run 1 tt_ok sg0 rfl rfl trivial ?_
    refine WL.nil ?_
    refine QT.n ?_
    refine WC.seq ?_
    refine WC.seq ?_
    refine WC.region ?_
    refine WL.run 4 tt_ok sg0 rfl rfl trivial ?_
    refine WL.sect 3 3 false tt_ok sg0 rfl rfl (fun _ => trivial) ?_
    refine WL.run 1 tt_ok sg0 rfl rfl ⟨by first | exact id | exact fun h => by rw [h]; rfl | simp_all, trivial⟩ ?_
    refine WL.nil ?_
    refine QT.n ?_
    refine WC.cond rfl (fun h3 => ?_) (fun h3 => ?_)
    · replace H := of_t H h3
      refine WC.region ?_
      refine WL.run 3 tt_ok sg0 rfl rfl trivial ?_
      refine WL.eff 131 tt_ok et_ok eg0 rfl rfl rfl trivial ?_
      refine WL.freezeT 131 enc_i64 ([a0.A] : List Int) rfl rfl rfl rfl ?_
      obtain ⟨g4, H⟩ := of_need H
      refine WL.appT enc_i64 (([] : List Int) ++ ([IntKind.i64.wrap (a1 + 1)] : List Int)) ([a0.A] : List Int) tt_ok et_ok rfl rfl (fun _ => rfl) (fun _ => rfl) rfl rfl rfl rfl (nCap_ok g4) rfl rfl rfl rfl rfl ?_
      refine WL.run 1 tt_ok sg0 rfl rfl trivial ?_
      refine WL.nil ?_
      refine QT.n ?_
      refine WC.seq ?_
      refine WC.region ?_
      refine WL.run 2 tt_ok sg0 rfl rfl trivial ?_
      refine WL.nil ?_
      refine QT.n ?_
      refine WC.freezeT 106 enc_i64 ((([] : List Int) ++ ([IntKind.i64.wrap (a1 + 1)] : List Int)) ++ ([a0.A] : List Int)) rfl rfl rfl rfl ?_
      refine WC.ret ?_
      cases H
      exact Ends.auto rfl rfl rfl trivial
    replace H := of_f H h3
    refine WC.skip ?_
    refine QT.n ?_
    refine WC.seq ?_
    refine WC.region ?_
    refine WL.run 2 tt_ok sg0 rfl rfl trivial ?_
    refine WL.nil ?_
    refine QT.n ?_
    refine WC.freezeT 106 enc_i64 (([] : List Int) ++ ([IntKind.i64.wrap (a1 + 1)] : List Int)) rfl rfl rfl rfl ?_
    refine WC.ret ?_
    cases H
    exact Ends.auto rfl rfl rfl trivial
  replace H := of_f H h1
  refine WC.skip ?_
  refine QT.n ?_
  refine WC.seq ?_
  refine WC.seq ?_
  refine WC.region ?_
  refine WL.run 4 tt_ok sg0 rfl rfl trivial ?_
  refine WL.sect 3 3 false tt_ok sg0 rfl rfl (fun _ => trivial) ?_
  refine WL.run 1 tt_ok sg0 rfl rfl ⟨by first | exact id | exact fun h => by rw [h]; rfl | simp_all, trivial⟩ ?_
  refine WL.nil ?_
  refine QT.n ?_
  refine WC.cond rfl (fun h5 => ?_) (fun h5 => ?_)
  · replace H := of_t H h5
    refine WC.region ?_
    refine WL.run 3 tt_ok sg0 rfl rfl trivial ?_
    refine WL.eff 131 tt_ok et_ok eg0 rfl rfl rfl trivial ?_
    refine WL.freezeT 131 enc_i64 ([a0.A] : List Int) rfl rfl rfl rfl ?_
    refine WL.row 106 (([] : List Int).map enc_i64) rfl rfl rfl ?_
    obtain ⟨g6, H⟩ := of_need H
    refine WL.appT enc_i64 ([] : List Int) ([a0.A] : List Int) tt_ok et_ok rfl rfl (fun _ => rfl) (fun _ => rfl) rfl rfl rfl rfl (nCap_ok g6) rfl rfl rfl rfl rfl ?_
    refine WL.run 1 tt_ok sg0 rfl rfl trivial ?_
    refine WL.nil ?_
    refine QT.n ?_
    refine WC.seq ?_
    refine WC.region ?_
    refine WL.run 2 tt_ok sg0 rfl rfl trivial ?_
    refine WL.nil ?_
    refine QT.n ?_
    refine WC.freezeT 106 enc_i64 (([] : List Int) ++ ([a0.A] : List Int)) rfl rfl rfl rfl ?_
    refine WC.ret ?_
    cases H
    exact Ends.auto rfl rfl rfl trivial
  replace H := of_f H h5
  refine WC.skip ?_
  refine QT.n ?_
  refine WC.seq ?_
  refine WC.region ?_
  refine WL.run 2 tt_ok sg0 rfl rfl trivial ?_
  refine WL.nil ?_
  refine QT.n ?_
  refine WC.freezeT 106 enc_i64 ([] : List Int) rfl rfl rfl rfl ?_
  refine WC.ret ?_
  cases H
  exact Ends.auto rfl rfl rfl trivial
theorem ref11_ways_f : hasFunc Try.prog 56 Try.f56 := ⟨Try.func56, rfl, by kernel_rfl⟩

/-! ### logjam/logjamref11.one -/
theorem ref11_one_0 (a0 : T_api_Program) (a1 : List T_api_Ins) (a2 : List Int) (a3 : Int) {r : Int × (List Int)} (H : ref11_one a0 a1 a2 a3 = some r) : LJ.Spec Try.prog 36 [.d (.agg [slT enc_api_Decl a0.Decls, slT enc_sl_sl_api_Need a0.Waits, slT enc_api_Func a0.Funcs]), .d (slT enc_api_Ins a1), .own 0, .d (.int .i64 a3)] [(0, .row 3 1 (a2.map enc_i64))] (.tup [.own 0, .d (.int .i64 r.1)]) [(0, .row 3 1 (r.2.map enc_i64))] := by
  refine LJ.Spec.code Try.func36 rfl 77 rfl rfl [] rfl fun w0 F0 S0 B0 => ?_
  unfold ref11_one at H
  refine WC.seq ?_
  refine WC.region ?_
  refine WL.eff 104 tt_ok et_ok eg0 rfl rfl rfl trivial ?_
  refine WL.run 2 tt_ok sg0 rfl rfl trivial ?_
  refine WL.nil ?_
  refine QT.n ?_
  refine WC.seq ?_
  refine WC.heldP (.one 0 true (.one 1 true (.one 2 true (.one 3 true (.one 4 true (.one 5 true (.one 6 true (.one 7 false (.one 8 false (.one 9 false (.one 10 true .done))))))))))) [104] [104] rfl (by kernel_rfl) rfl (by kernel_rfl) rfl rfl (fun _ h => h) rfl rfl rfl (fun _ _ _ h => h) fun FK NK wK K => ?_
  obtain ⟨g1, H⟩ := of_need H
  refine WH.run 5 tt_ok rfl rfl rfl rfl ⟨⟨(nIn_ok g1).1, (nIn_ok g1).2, rfl⟩, trivial⟩ ?_
  refine WH.mv rfl rfl rfl rfl rfl rfl rfl rfl rfl ?_
  refine WH.run 1 tt_ok rfl rfl rfl rfl trivial ?_
  obtain ⟨g2, H⟩ := of_need H
  refine WH.yvs rfl (LJ.Y.idxRel enc_i64 a2 a3 tt_ok rfl rfl rfl rfl rfl (nIn_ok g2)) rfl rfl rfl rfl rfl ?_
  refine WH.yvs rfl (LJ.Y.loadRel enc_i64 a2 a3 0 rfl rfl (fun _ => rfl) rfl (by kernel_rfl) rfl (by first | exact nIn_ok g2 | (have := nIn_ok g2; simpa only [List.length_set, List.length_map] using this))) rfl rfl rfl rfl rfl ?_
  obtain ⟨x3, hx3, H⟩ := of_bind H
  refine WH.call [] rfl (ref11_Behind_0 _ _ _ hx3) ref11_Behind_f rfl rfl trivial rfl rfl rfl rfl rfl ?_
  refine WH.run 1 tt_ok rfl rfl rfl rfl trivial ?_
  refine WH.nil rfl ?_
  refine QT.n ?_
  refine WC.seq ?_
  refine WC.seq ?_
  refine WC.region ?_
  refine WL.run 2 tt_ok sg0 rfl rfl trivial ?_
  refine WL.nil ?_
  refine QT.n ?_
  refine WC.cond rfl (fun h4 => ?_) (fun h4 => ?_)
  · replace H := of_t H h4
    refine WC.seq ?_
    refine WC.region ?_
    refine WL.run 3 tt_ok sg0 rfl rfl trivial ?_
    refine WL.nil ?_
    refine QT.n ?_
    refine WC.ret ?_
    refine QT.r ?_
    cases H
    exact Ends.auto rfl rfl rfl ⟨rfl, trivial⟩
  replace H := of_f H h4
  refine WC.skip ?_
  refine QT.n ?_
  refine WC.seq ?_
  refine WC.seq ?_
  refine WC.region ?_
  refine WL.run 2 tt_ok sg0 rfl rfl trivial ?_
  refine WL.nil ?_
  refine QT.n ?_
  refine WC.cond rfl (fun h5 => ?_) (fun h5 => ?_)
  · replace H := of_t H h5
    refine WC.seq ?_
    refine WC.region ?_
    refine WL.run 3 tt_ok sg0 rfl rfl trivial ?_
    refine WL.nil ?_
    refine QT.n ?_
    refine WC.ret ?_
    refine QT.r ?_
    cases H
    exact Ends.auto rfl rfl rfl ⟨rfl, trivial⟩
  replace H := of_f H h5
  refine WC.skip ?_
  refine QT.n ?_
  refine WC.seq ?_
  refine WC.region ?_
  obtain ⟨g6, H⟩ := of_need H
  refine WL.run 5 tt_ok sg0 rfl rfl ⟨⟨(nIn_ok g6).1, (nIn_ok g6).2, rfl⟩, trivial⟩ ?_
  obtain ⟨x7, hx7, H⟩ := of_bind H
  refine WL.call [] (ref11_ways_0 _ _ hx7) ref11_ways_f rfl rfl trivial rfl rfl rfl ?_
  refine WL.run 1 tt_ok sg0 rfl rfl trivial ?_
  refine WL.nil ?_
  refine QT.n ?_
  refine WC.seq ?_
  refine WC.seq ?_
  refine WC.region ?_
  refine WL.run 1 tt_ok sg0 rfl rfl trivial ?_
  refine WL.nil ?_
  refine QT.n ?_
  refine WC.block ?_
  refine WC.loop (ι := {x : Nat × (Int × (List Int)) // ref11_one_l9 a1 x3 x7 x.1 x.2 = some r}) (fun x => [(1, .d (slT enc_api_Ins a1)), (2, .own 0), (10, .d (.int .i64 x3)), (11, .d (slT enc_i64 x7)), (12, .d (.int .i64 x.1.2.1))]) (fun x => [(0, .row 3 1 (x.1.2.2.map enc_i64))]) (fun x => x.1.1) ⟨(fuel, (0, a2)), H⟩ (Less.mk' ⟨rfl, rfl, rfl, rfl, rfl, trivial⟩ ⟨rfl, trivial⟩) fun x => ?_
  obtain ⟨⟨k9, s8⟩, H⟩ := x
  rcases k9 with _ | k9
  · exact of_none H
  rw [ref11_one_l9] at H
  refine WC.seq ?_
  refine WC.seq ?_
  refine WC.region ?_
  refine WL.run 4 tt_ok sg0 rfl rfl trivial ?_
  refine WL.nil ?_
  refine QT.n ?_
  refine WC.cond rfl (fun h10 => ?_) (fun h10 => ?_)
  · replace H := of_t H h10
    refine WC.skip ?_
    refine QT.n ?_
    refine WC.seq ?_
    refine WC.block ?_
    refine WC.seq ?_
    refine WC.seq ?_
    refine WC.region ?_
    obtain ⟨g11, H⟩ := of_need H
    refine WL.run 7 tt_ok sg0 rfl rfl ⟨⟨(nIn_ok g11).1, (nIn_ok g11).2, rfl⟩, trivial⟩ ?_
    refine WL.nil ?_
    refine QT.n ?_
    refine WC.cond rfl (fun h12 => ?_) (fun h12 => ?_)
    · replace H := of_t H h12
      refine WC.seq ?_
      refine WC.region ?_
      refine WL.run 3 tt_ok sg0 rfl rfl trivial ?_
      refine WL.nil ?_
      refine QT.n ?_
      refine WC.ret ?_
      refine QT.r (QB.r (QT.r (QT.r (QB.r (QT.r ?_)))))
      cases H
      exact Ends.auto rfl rfl rfl ⟨rfl, trivial⟩
    replace H := of_f H h12
    refine WC.skip ?_
    refine QT.n ?_
    refine WC.seq ?_
    refine WC.seq ?_
    refine WC.region ?_
    obtain ⟨g13, H⟩ := of_need H
    refine WL.run 5 tt_ok sg0 rfl rfl ⟨⟨(nIn_ok g13).1, (nIn_ok g13).2, rfl⟩, trivial⟩ ?_
    obtain ⟨g14, H⟩ := of_need H
    refine WL.yv (LJ.Y.idxRel enc_i64 s8.2 (x7.getD s8.1.toNat default) tt_ok rfl rfl rfl rfl rfl (nIn_ok g14)) rfl rfl rfl ?_
    refine WL.yv (LJ.Y.loadRel enc_i64 s8.2 (x7.getD s8.1.toNat default) 0 rfl rfl (fun _ => rfl) rfl (by kernel_rfl) rfl (by first | exact nIn_ok g14 | (have := nIn_ok g14; simpa only [List.length_set, List.length_map] using this))) rfl rfl rfl ?_
    refine WL.run 2 tt_ok sg0 rfl rfl trivial ?_
    refine WL.split (g := 57) rfl (fun h15 => ?_) (fun h15 => ?_)
    · replace H := of_t H h15
      obtain ⟨g16, H⟩ := of_need H
      refine WL.grun 5 8 true 57 tt_ok sg0 rfl rfl rfl rfl ⟨⟨(nIn_ok g16).1, (nIn_ok g16).2, rfl⟩, trivial⟩ ?_
      obtain ⟨g17, H⟩ := of_need H
      refine WL.gyv (LJ.Y.idxRel enc_i64 s8.2 (x7.getD s8.1.toNat default) tt_ok rfl rfl rfl rfl rfl (nIn_ok g17)) rfl rfl rfl rfl rfl rfl ?_
      refine WL.gyv (LJ.Y.loadRel enc_i64 s8.2 (x7.getD s8.1.toNat default) 0 rfl rfl (fun _ => rfl) rfl (by kernel_rfl) rfl (by first | exact nIn_ok g17 | (have := nIn_ok g17; simpa only [List.length_set, List.length_map] using this))) rfl rfl rfl rfl rfl rfl ?_
      refine WL.grun 2 8 true 57 tt_ok sg0 rfl rfl rfl rfl trivial ?_
      refine WL.pickT rfl rfl rfl rfl rfl rfl ?_
      refine WL.nil ?_
      refine QT.n ?_
      refine WC.cond rfl (fun h18 => ?_) (fun h18 => ?_)
      · replace H := of_t H h18
        refine WC.seq ?_
        refine WC.region ?_
        refine WL.run 3 tt_ok sg0 rfl rfl trivial ?_
        refine WL.nil ?_
        refine QT.n ?_
        refine WC.ret ?_
        refine QT.r (QB.r (QT.r (QT.r (QB.r (QT.r ?_)))))
        cases H
        exact Ends.auto rfl rfl rfl ⟨rfl, trivial⟩
      replace H := of_f H h18
      refine WC.skip ?_
      refine QT.n ?_
      refine WC.region ?_
      obtain ⟨g19, H⟩ := of_need H
      refine WL.run 6 tt_ok sg0 rfl rfl ⟨⟨(nIn_ok g19).1, (nIn_ok g19).2, rfl⟩, trivial⟩ ?_
      obtain ⟨g20, H⟩ := of_need H
      refine WL.yv (LJ.Y.idxRel enc_i64 s8.2 (x7.getD s8.1.toNat default) tt_ok rfl rfl rfl rfl rfl (nIn_ok g20)) rfl rfl rfl ?_
      refine WL.storeRel enc_i64 s8.2 (x7.getD s8.1.toNat default) 0 x3 (.int .i64 x3) rfl rfl rfl rfl (fun _ => rfl) rfl (by kernel_rfl) rfl rfl (by first | exact nIn_ok g20 | (have := nIn_ok g20; simpa only [List.length_set, List.length_map] using this)) rfl rfl rfl rfl ?_
      refine WL.nil ?_
      refine QB.n (QT.n ?_)
      refine WC.region ?_
      refine WL.run 3 tt_ok sg0 rfl rfl trivial ?_
      refine WL.nil ?_
      refine QT.n ?_
      exact ⟨⟨(k9, (IntKind.i64.wrap (s8.1 + 1), s8.2.set (x7.getD s8.1.toNat default).toNat x3)), H⟩, Nat.lt_succ_self _, Less.mk' ⟨rfl, rfl, rfl, rfl, rfl, trivial⟩ ⟨rfl, trivial⟩⟩
    · replace H := of_f H h15
      refine WL.gskips 9 8 true 57 rfl rfl rfl rfl ?_
      refine WL.pickF rfl rfl rfl rfl rfl rfl ?_
      refine WL.nil ?_
      refine QT.n ?_
      refine WC.cond rfl (fun h => absurd h (by decide)) (fun h => ?_)
      refine WC.skip ?_
      refine QT.n ?_
      refine WC.region ?_
      obtain ⟨g21, H⟩ := of_need H
      refine WL.run 6 tt_ok sg0 rfl rfl ⟨⟨(nIn_ok g21).1, (nIn_ok g21).2, rfl⟩, trivial⟩ ?_
      obtain ⟨g22, H⟩ := of_need H
      refine WL.yv (LJ.Y.idxRel enc_i64 s8.2 (x7.getD s8.1.toNat default) tt_ok rfl rfl rfl rfl rfl (nIn_ok g22)) rfl rfl rfl ?_
      refine WL.storeRel enc_i64 s8.2 (x7.getD s8.1.toNat default) 0 x3 (.int .i64 x3) rfl rfl rfl rfl (fun _ => rfl) rfl (by kernel_rfl) rfl rfl (by first | exact nIn_ok g22 | (have := nIn_ok g22; simpa only [List.length_set, List.length_map] using this)) rfl rfl rfl rfl ?_
      refine WL.nil ?_
      refine QB.n (QT.n ?_)
      refine WC.region ?_
      refine WL.run 3 tt_ok sg0 rfl rfl trivial ?_
      refine WL.nil ?_
      refine QT.n ?_
      exact ⟨⟨(k9, (IntKind.i64.wrap (s8.1 + 1), s8.2.set (x7.getD s8.1.toNat default).toNat x3)), H⟩, Nat.lt_succ_self _, Less.mk' ⟨rfl, rfl, rfl, rfl, rfl, trivial⟩ ⟨rfl, trivial⟩⟩
  replace H := of_f H h10
  refine WC.exit ?_
  refine QT.x (QT.x (QB.hit (QT.n ?_)))
  refine WC.seq ?_
  refine WC.region ?_
  refine WL.run 3 tt_ok sg0 rfl rfl trivial ?_
  refine WL.nil ?_
  refine QT.n ?_
  refine WC.ret ?_
  cases H
  exact Ends.auto rfl rfl rfl ⟨rfl, trivial⟩
theorem ref11_one_s (n0 : Nat) (hn : nodupB [n0] = true) (a0 : T_api_Program) (a1 : List T_api_Ins) (a2 : List Int) (a3 : Int) {r : Int × (List Int)} (H : ref11_one a0 a1 a2 a3 = some r) : LJ.Spec Try.prog 36 [.d (.agg [slT enc_api_Decl a0.Decls, slT enc_sl_sl_api_Need a0.Waits, slT enc_api_Func a0.Funcs]), .d (slT enc_api_Ins a1), .own n0, .d (.int .i64 a3)] [(n0, .row 3 1 (a2.map enc_i64))] (.tup [.own n0, .d (.int .i64 r.1)]) [(n0, .row 3 1 (r.2.map enc_i64))] :=
  Spec.names [n0] hn rfl rfl (ref11_one_0 a0 a1 a2 a3 H)
theorem ref11_one_f : hasFunc Try.prog 36 Try.f36 := ⟨Try.func36, rfl, by kernel_rfl⟩

/-! ### logjam/logjamref11.Of -/
theorem ref11_Of_0 (a0 : T_api_Program) (a1 : Int) {r : (List Int) × Int × Int} (H : ref11_Of a0 a1 = some r) : LJ.Spec Try.prog 13 [.d (.agg [slT enc_api_Decl a0.Decls, slT enc_sl_sl_api_Need a0.Waits, slT enc_api_Func a0.Funcs]), .d (.int .i64 a1)] [] (.tup [.d (slT enc_i64 r.1), .d (.int .i64 r.2.1), .d (.int .i64 r.2.2)]) [] := by
  refine LJ.Spec.code Try.func13 rfl 100 rfl rfl [] rfl fun w0 F0 S0 B0 => ?_
  unfold ref11_Of at H
  refine WC.seq ?_
  refine WC.region ?_
  refine WL.eff 102 tt_ok et_ok eg0 rfl rfl rfl trivial ?_
  refine WL.run 3 tt_ok sg0 rfl rfl trivial ?_
  refine WL.nil ?_
  refine QT.n ?_
  refine WC.seq ?_
  refine WC.seq ?_
  refine WC.region ?_
  refine WL.run 3 tt_ok sg0 rfl rfl trivial ?_
  refine WL.sect 5 2 false tt_ok sg0 rfl rfl (fun _ => trivial) ?_
  refine WL.run 1 tt_ok sg0 rfl rfl ⟨by first | exact id | exact fun h => by rw [h]; rfl | simp_all, trivial⟩ ?_
  refine WL.nil ?_
  refine QT.n ?_
  refine WC.cond rfl (fun h1 => ?_) (fun h1 => ?_)
  · replace H := of_t H h1
    refine WC.seq ?_
    refine WC.region ?_
    refine WL.run 3 tt_ok sg0 rfl rfl trivial ?_
    refine WL.nil ?_
    refine QT.n ?_
    refine WC.nilT 4 enc_i64 rfl ?_
    refine WC.ret ?_
    refine QT.r ?_
    cases H
    exact Ends.auto rfl rfl rfl trivial
  replace H := of_f H h1
  refine WC.skip ?_
  refine QT.n ?_
  refine WC.seq ?_
  refine WC.region ?_
  obtain ⟨g2, H⟩ := of_need H
  refine WL.run 7 tt_ok sg0 rfl rfl ⟨⟨(nIn_ok g2).1, (nIn_ok g2).2, rfl⟩, trivial⟩ ?_
  refine WL.nil ?_
  refine QT.n ?_
  refine WC.seq ?_
  refine WC.seq ?_
  refine WC.region ?_
  refine WL.run 3 tt_ok sg0 rfl rfl trivial ?_
  refine WL.nil ?_
  refine QT.n ?_
  refine WC.cond rfl (fun h3 => ?_) (fun h3 => ?_)
  · replace H := of_t H h3
    refine WC.seq ?_
    refine WC.region ?_
    refine WL.run 3 tt_ok sg0 rfl rfl trivial ?_
    refine WL.nil ?_
    refine QT.n ?_
    refine WC.nilT 4 enc_i64 rfl ?_
    refine WC.ret ?_
    refine QT.r ?_
    cases H
    exact Ends.auto rfl rfl rfl trivial
  replace H := of_f H h3
  refine WC.skip ?_
  refine QT.n ?_
  refine WC.seq ?_
  obtain ⟨g6_2_1, H⟩ := of_need H
  obtain ⟨g6_5_1, H⟩ := of_need H
  refine WC.heldF [(2, .ptr 102 0), (7, .d (slT enc_api_Ins ((a0.Funcs.getD a1.toNat default).Code))), (8, .own 136), (9, .own 139), (10, .d (.int .i64 (((a0.Funcs.getD a1.toNat default).Code).length : Int))), (11, .d (.int .i64 0))] [(102, .box 26 [.d (slT enc_api_Decl a0.Decls), .d (slT enc_sl_sl_api_Need a0.Waits), .d (slT enc_api_Func a0.Funcs)]), (136, .row 3 1 ((List.replicate (((a0.Funcs.getD a1.toNat default).Code).length : Int).toNat (0 : Int)).map enc_i64)), (139, .row 4 1 ((List.replicate (((a0.Funcs.getD a1.toNat default).Code).length : Int).toNat (false : Bool)).map enc_bool))] (.one 0 true (.one 1 true (.one 3 true (.one 4 true (.one 6 true (.one 7 true (.fork (.one 2 false (.one 8 true (.one 5 false (.one 9 true (.one 10 true (.one 11 true .done)))))) (.one 5 false (.one 2 false (.one 8 true (.one 9 true (.one 10 true (.one 11 true .done))))))))))))) [102] [102] rfl (by kernel_rfl) rfl (by kernel_rfl) rfl rfl (fun _ h => h) rfl rfl rfl (fun FK NK wK K => ?_) ?_
  · refine WH.run 6 tt_ok rfl rfl rfl rfl trivial ?_
    refine WH.fork ?_ ?_
    · refine WH.makeT (r := 136) enc_i64 (0 : Int) (((a0.Funcs.getD a1.toNat default).Code).length : Int) tt_ok et_ok rfl rfl rfl rfl rfl rfl rfl rfl (nMk_ok g6_2_1) rfl rfl rfl rfl rfl rfl ?_
      refine WH.mv rfl rfl rfl rfl rfl rfl rfl rfl rfl ?_
      refine WH.makeT (r := 139) enc_bool (false : Bool) (((a0.Funcs.getD a1.toNat default).Code).length : Int) tt_ok et_ok rfl rfl rfl rfl rfl rfl rfl rfl (nMk_ok g6_5_1) rfl rfl rfl rfl rfl rfl ?_
      refine WH.mv rfl rfl rfl rfl rfl rfl rfl rfl rfl ?_
      refine WH.run 2 tt_ok rfl rfl rfl rfl trivial ?_
      exact WH.nilF rfl (LessW.mk' ⟨AVle.of rfl, AVle.of rfl, AVle.of rfl, AVle.of rfl, AVle.of rfl, AVle.of rfl, trivial⟩ ⟨rfl, rfl, rfl, trivial⟩)
    · refine WH.makeT (r := 139) enc_bool (false : Bool) (((a0.Funcs.getD a1.toNat default).Code).length : Int) tt_ok et_ok rfl rfl rfl rfl rfl rfl rfl rfl (nMk_ok g6_5_1) rfl rfl rfl rfl rfl rfl ?_
      refine WH.makeT (r := 136) enc_i64 (0 : Int) (((a0.Funcs.getD a1.toNat default).Code).length : Int) tt_ok et_ok rfl rfl rfl rfl rfl rfl rfl rfl (nMk_ok g6_2_1) rfl rfl rfl rfl rfl rfl ?_
      refine WH.mv rfl rfl rfl rfl rfl rfl rfl rfl rfl ?_
      refine WH.mv rfl rfl rfl rfl rfl rfl rfl rfl rfl ?_
      refine WH.run 2 tt_ok rfl rfl rfl rfl trivial ?_
      exact WH.nilF rfl (LessW.mk' ⟨AVle.of rfl, AVle.of rfl, AVle.of rfl, AVle.of rfl, AVle.of rfl, AVle.of rfl, trivial⟩ ⟨rfl, rfl, rfl, trivial⟩)
  · refine QT.n ?_
    refine WC.seq ?_
    refine WC.seq ?_
    refine WC.region ?_
    refine WL.run 1 tt_ok sg0 rfl rfl trivial ?_
    refine WL.nil ?_
    refine QT.n ?_
    refine WC.block ?_
    refine WC.loop (ι := {x : Nat × (Int × (List Int)) // ref11_Of_l5 a0 a1 x.1 x.2 = some r}) (fun x => [(2, .ptr 102 0), (7, .d (slT enc_api_Ins ((a0.Funcs.getD a1.toNat default).Code))), (8, .own 136), (9, .own 139), (10, .d (.int .i64 (((a0.Funcs.getD a1.toNat default).Code).length : Int))), (11, .d (.int .i64 0)), (12, .d (.int .i64 x.1.2.1))]) (fun x => [(102, .box 26 [.d (slT enc_api_Decl a0.Decls), .d (slT enc_sl_sl_api_Need a0.Waits), .d (slT enc_api_Func a0.Funcs)]), (136, .row 3 1 (x.1.2.2.map enc_i64)), (139, .row 4 1 ((List.replicate (((a0.Funcs.getD a1.toNat default).Code).length : Int).toNat (false : Bool)).map enc_bool))]) (fun x => x.1.1) ⟨(fuel, (1, List.replicate (((a0.Funcs.getD a1.toNat default).Code).length : Int).toNat (0 : Int))), H⟩ (Less.mk' ⟨rfl, rfl, rfl, rfl, rfl, rfl, rfl, trivial⟩ ⟨rfl, rfl, rfl, trivial⟩) fun x => ?_
    obtain ⟨⟨k5, s4⟩, H⟩ := x
    rcases k5 with _ | k5
    · exact of_none H
    rw [ref11_Of_l5] at H
    refine WC.seq ?_
    refine WC.seq ?_
    refine WC.region ?_
    refine WL.run 4 tt_ok sg0 rfl rfl trivial ?_
    refine WL.nil ?_
    refine QT.n ?_
    refine WC.cond rfl (fun h6 => ?_) (fun h6 => ?_)
    · replace H := of_t H h6
      refine WC.skip ?_
      refine QT.n ?_
      refine WC.seq ?_
      refine WC.block ?_
      refine WC.region ?_
      refine WL.run 2 tt_ok sg0 rfl rfl trivial ?_
      obtain ⟨g7, H⟩ := of_need H
      refine WL.yv (LJ.Y.idxRel enc_i64 s4.2 s4.1 tt_ok rfl rfl rfl rfl rfl (nIn_ok g7)) rfl rfl rfl ?_
      refine WL.storeRel enc_i64 s4.2 s4.1 0 (-1) (.int .i64 (-1)) rfl rfl rfl rfl (fun _ => rfl) rfl (by kernel_rfl) rfl rfl (by first | exact nIn_ok g7 | (have := nIn_ok g7; simpa only [List.length_set, List.length_map] using this)) rfl rfl rfl rfl ?_
      refine WL.nil ?_
      refine QB.n (QT.n ?_)
      refine WC.region ?_
      refine WL.run 3 tt_ok sg0 rfl rfl trivial ?_
      refine WL.nil ?_
      refine QT.n ?_
      exact ⟨⟨(k5, (IntKind.i64.wrap (s4.1 + 1), s4.2.set s4.1.toNat (-1))), H⟩, Nat.lt_succ_self _, Less.mk' ⟨rfl, rfl, rfl, rfl, rfl, rfl, rfl, trivial⟩ ⟨rfl, rfl, rfl, trivial⟩⟩
    replace H := of_f H h6
    refine WC.exit ?_
    refine QT.x (QT.x (QB.hit (QT.n ?_)))
    obtain ⟨K8, hK8, H⟩ := of_withK H
    refine WC.cut (fun E m => ∃ s9 : Int × Int × (List Int), K8 s9 = some r ∧ LessW E m [(8, .own 136), (10, .d (.int .i64 s9.1)), (11, .d (.int .i64 s9.2.1))] [(136, .row 3 1 (s9.2.2.map enc_i64))]) ?_ ?_
    · refine WC.block ?_
      refine WC.loop (ι := {x : Nat × (Int × Int × (List Int) × (List Bool)) // ref11_Of_l11 a0 a1 K8 x.1 x.2 = some r}) (fun x => [(2, .ptr 102 0), (7, .d (slT enc_api_Ins ((a0.Funcs.getD a1.toNat default).Code))), (8, .own 136), (9, .own 139), (10, .d (.int .i64 x.1.2.1)), (11, .d (.int .i64 x.1.2.2.1))]) (fun x => [(102, .box 26 [.d (slT enc_api_Decl a0.Decls), .d (slT enc_sl_sl_api_Need a0.Waits), .d (slT enc_api_Func a0.Funcs)]), (136, .row 3 1 (x.1.2.2.2.1.map enc_i64)), (139, .row 4 1 (x.1.2.2.2.2.map enc_bool))]) (fun x => x.1.1) ⟨(fuel, ((((a0.Funcs.getD a1.toNat default).Code).length : Int), 0, s4.2, List.replicate (((a0.Funcs.getD a1.toNat default).Code).length : Int).toNat (false : Bool))), H⟩ (Less.mk' ⟨rfl, rfl, rfl, rfl, rfl, rfl, trivial⟩ ⟨rfl, rfl, rfl, trivial⟩) fun x => ?_
      obtain ⟨⟨k11, s10⟩, H⟩ := x
      rcases k11 with _ | k11
      · exact of_none H
      rw [ref11_Of_l11] at H
      refine WC.block ?_
      refine WC.seq ?_
      refine WC.region ?_
      refine WL.run 1 tt_ok sg0 rfl rfl trivial ?_
      refine WL.nil ?_
      refine QT.n ?_
      obtain ⟨K12, hK12, H⟩ := of_withK H
      refine WC.cut (fun E m => ∃ s13 : Int, K12 s13 = some r ∧ LessW E m [(2, .ptr 102 0), (7, .d (slT enc_api_Ins ((a0.Funcs.getD a1.toNat default).Code))), (8, .own 136), (9, .own 139), (10, .d (.int .i64 s10.1)), (11, .d (.int .i64 s10.2.1)), (13, .d (.int .i64 s13))] [(102, .box 26 [.d (slT enc_api_Decl a0.Decls), .d (slT enc_sl_sl_api_Need a0.Waits), .d (slT enc_api_Func a0.Funcs)]), (136, .row 3 1 (s10.2.2.1.map enc_i64)), (139, .row 4 1 (s10.2.2.2.map enc_bool))]) ?_ ?_
      · refine WC.block ?_
        refine WC.loop (ι := {x : Nat × Int // ref11_Of_l15 a0 a1 s10 K12 x.1 x.2 = some r}) (fun x => [(2, .ptr 102 0), (7, .d (slT enc_api_Ins ((a0.Funcs.getD a1.toNat default).Code))), (8, .own 136), (9, .own 139), (10, .d (.int .i64 s10.1)), (11, .d (.int .i64 s10.2.1)), (13, .d (.int .i64 x.1.2))]) (fun x => [(102, .box 26 [.d (slT enc_api_Decl a0.Decls), .d (slT enc_sl_sl_api_Need a0.Waits), .d (slT enc_api_Func a0.Funcs)]), (136, .row 3 1 (s10.2.2.1.map enc_i64)), (139, .row 4 1 (s10.2.2.2.map enc_bool))]) (fun x => x.1.1) ⟨(fuel, 0), H⟩ (Less.mk' ⟨rfl, rfl, rfl, rfl, rfl, rfl, rfl, trivial⟩ ⟨rfl, rfl, rfl, trivial⟩) fun x => ?_
        obtain ⟨⟨k15, s14⟩, H⟩ := x
        rcases k15 with _ | k15
        · exact of_none H
        rw [ref11_Of_l15] at H
        refine WC.seq ?_
        refine WC.seq ?_
        refine WC.region ?_
        refine WL.run 5 tt_ok sg0 rfl rfl trivial ?_
        refine WL.split (g := 55) rfl (fun h16 => ?_) (fun h16 => ?_)
        · replace H := of_t H h16
          refine WL.grun 2 4 true 55 tt_ok sg0 rfl rfl rfl rfl trivial ?_
          obtain ⟨g17, H⟩ := of_need H
          refine WL.gyv (LJ.Y.idxRel enc_bool s10.2.2.2 s14 tt_ok rfl rfl rfl rfl rfl (nIn_ok g17)) rfl rfl rfl rfl rfl rfl ?_
          refine WL.gyv (LJ.Y.loadRel enc_bool s10.2.2.2 s14 0 rfl rfl (fun _ => rfl) rfl (by kernel_rfl) rfl (by first | exact nIn_ok g17 | (have := nIn_ok g17; simpa only [List.length_set, List.length_map] using this))) rfl rfl rfl rfl rfl rfl ?_
          refine WL.grun 1 4 true 55 tt_ok sg0 rfl rfl rfl rfl trivial ?_
          refine WL.split (g := 60) rfl (fun h18 => ?_) (fun h18 => ?_)
          · replace H := of_t H h18
            refine WL.gskips 5 9 false 60 rfl rfl rfl rfl ?_
            refine WL.gpickT rfl rfl rfl rfl rfl rfl rfl rfl rfl ?_
            refine WL.pickT rfl rfl rfl rfl rfl rfl ?_
            refine WL.nil ?_
            refine QT.n ?_
            refine WC.cond rfl (fun h => ?_) (fun h => absurd h (by decide))
            refine WC.skip ?_
            refine QT.n ?_
            refine WC.block ?_
            refine WC.region ?_
            refine WL.run 3 tt_ok sg0 rfl rfl trivial ?_
            refine WL.nil ?_
            refine QB.n (QT.n ?_)
            exact ⟨⟨(k15, IntKind.i64.wrap (s14 + 1)), H⟩, Nat.lt_succ_self _, Less.mk' ⟨rfl, rfl, rfl, rfl, rfl, rfl, rfl, trivial⟩ ⟨rfl, rfl, rfl, trivial⟩⟩
          · replace H := of_f H h18
            refine WL.grun 2 9 false 60 tt_ok sg0 rfl rfl rfl rfl trivial ?_
            obtain ⟨g19, H⟩ := of_need H
            refine WL.gyv (LJ.Y.idxRel enc_i64 s10.2.2.1 s14 tt_ok rfl rfl rfl rfl rfl (nIn_ok g19)) rfl rfl rfl rfl rfl rfl ?_
            refine WL.gyv (LJ.Y.loadRel enc_i64 s10.2.2.1 s14 0 rfl rfl (fun _ => rfl) rfl (by kernel_rfl) rfl (by first | exact nIn_ok g19 | (have := nIn_ok g19; simpa only [List.length_set, List.length_map] using this))) rfl rfl rfl rfl rfl rfl ?_
            refine WL.grun 1 9 false 60 tt_ok sg0 rfl rfl rfl rfl trivial ?_
            refine WL.gpickF rfl rfl rfl rfl rfl rfl rfl rfl rfl ?_
            refine WL.pickT rfl rfl rfl rfl rfl rfl ?_
            refine WL.nil ?_
            refine QT.n ?_
            refine WC.cond rfl (fun h20 => ?_) (fun h20 => ?_)
            · replace H := of_t H h20
              refine WC.skip ?_
              refine QT.n ?_
              refine WC.block ?_
              refine WC.region ?_
              refine WL.run 3 tt_ok sg0 rfl rfl trivial ?_
              refine WL.nil ?_
              refine QB.n (QT.n ?_)
              exact ⟨⟨(k15, IntKind.i64.wrap (s14 + 1)), H⟩, Nat.lt_succ_self _, Less.mk' ⟨rfl, rfl, rfl, rfl, rfl, rfl, rfl, trivial⟩ ⟨rfl, rfl, rfl, trivial⟩⟩
            replace H := of_f H h20
            refine WC.exit ?_
            refine QT.x (QT.x (QB.hit (QT.n ?_)))
            exact ⟨s14, H, LessW.mk' ⟨AVle.of rfl, AVle.of rfl, AVle.of rfl, AVle.of rfl, AVle.of rfl, AVle.of rfl, AVle.of rfl, trivial⟩ ⟨rfl, rfl, rfl, trivial⟩⟩
        · replace H := of_f H h16
          refine WL.gskips 5 4 true 55 rfl rfl rfl rfl ?_
          refine WL.gskips 5 9 false 60 rfl rfl rfl rfl ?_
          refine WL.gskips 1 4 true 55 rfl rfl rfl rfl ?_
          refine WL.pickF rfl rfl rfl rfl rfl rfl ?_
          refine WL.nil ?_
          refine QT.n ?_
          refine WC.cond rfl (fun h => absurd h (by decide)) (fun h => ?_)
          refine WC.exit ?_
          refine QT.x (QT.x (QB.hit (QT.n ?_)))
          exact ⟨s14, H, LessW.mk' ⟨AVle.of rfl, AVle.of rfl, AVle.of rfl, AVle.of rfl, AVle.of rfl, AVle.of rfl, AVle.of rfl, trivial⟩ ⟨rfl, rfl, rfl, trivial⟩⟩
      · rintro E m ⟨s13, H, hl⟩
        refine WC.lessW hl ?_
        replace H := (hK12 _).symm.trans H
        try dsimp only at H
        refine WC.seq ?_
        refine WC.seq ?_
        refine WC.region ?_
        refine WL.run 4 tt_ok sg0 rfl rfl trivial ?_
        refine WL.nil ?_
        refine QT.n ?_
        refine WC.cond rfl (fun h21 => ?_) (fun h21 => ?_)
        · replace H := of_t H h21
          refine WC.exit ?_
          refine QT.x (QB.miss rfl (QT.x (QB.hit (QT.n ?_))))
          exact ⟨(s10.1, s10.2.1, s10.2.2.1), H, LessW.mk' ⟨AVle.of rfl, AVle.of rfl, AVle.of rfl, trivial⟩ ⟨rfl, trivial⟩⟩
        replace H := of_f H h21
        refine WC.skip ?_
        refine QT.n ?_
        refine WC.seq ?_
        refine WC.region ?_
        refine WL.run 4 tt_ok sg0 rfl rfl trivial ?_
        obtain ⟨x22, hx22, H⟩ := of_bind H
        refine WL.call [136] (ref11_one_s 136 rfl _ _ _ _ hx22) ref11_one_f rfl rfl ⟨rfl, trivial⟩ rfl rfl rfl ?_
        refine WL.run 5 tt_ok sg0 rfl rfl trivial ?_
        refine WL.nil ?_
        refine QT.n ?_
        refine WC.seq ?_
        refine WC.region ?_
        refine WL.run 4 tt_ok sg0 rfl rfl trivial ?_
        obtain ⟨g23, H⟩ := of_need H
        refine WL.yv (LJ.Y.idxRel enc_bool s10.2.2.2 s13 tt_ok rfl rfl rfl rfl rfl (nIn_ok g23)) rfl rfl rfl ?_
        refine WL.storeRel enc_bool s10.2.2.2 s13 0 true (.bool true) rfl rfl rfl rfl (fun _ => rfl) rfl (by kernel_rfl) rfl rfl (by first | exact nIn_ok g23 | (have := nIn_ok g23; simpa only [List.length_set, List.length_map] using this)) rfl rfl rfl rfl ?_
        refine WL.nil ?_
        refine QT.n ?_
        refine WC.seq ?_
        refine WC.region ?_
        refine WL.run 3 tt_ok sg0 rfl rfl trivial ?_
        refine WL.sect 3 2 true tt_ok sg0 rfl rfl (fun _ => trivial) ?_
        refine WL.run 1 tt_ok sg0 rfl rfl ⟨by first | exact id | exact fun h => by rw [h]; rfl | simp_all, trivial⟩ ?_
        refine WL.nil ?_
        refine QT.n ?_
        refine WC.cond rfl (fun h24 => ?_) (fun h24 => ?_)
        · replace H := of_t H h24
          refine WC.region ?_
          refine WL.run 4 tt_ok sg0 rfl rfl trivial ?_
          refine WL.nil ?_
          refine QB.n (QT.n ?_)
          exact ⟨⟨(k11, (s13, x22.1, x22.2, s10.2.2.2.set s13.toNat true)), H⟩, Nat.lt_succ_self _, Less.mk' ⟨rfl, rfl, rfl, rfl, rfl, rfl, trivial⟩ ⟨rfl, rfl, rfl, trivial⟩⟩
        replace H := of_f H h24
        refine WC.skip ?_
        refine QB.n (QT.n ?_)
        exact ⟨⟨(k11, (s10.1, s10.2.1, x22.2, s10.2.2.2.set s13.toNat true)), H⟩, Nat.lt_succ_self _, Less.mk' ⟨rfl, rfl, rfl, rfl, rfl, rfl, trivial⟩ ⟨rfl, rfl, rfl, trivial⟩⟩
    · rintro E m ⟨s9, H, hl⟩
      refine WC.lessW hl ?_
      replace H := (hK8 _).symm.trans H
      try dsimp only at H
      refine WC.seq ?_
      refine WC.seq ?_
      refine WC.region ?_
      refine WL.run 2 tt_ok sg0 rfl rfl trivial ?_
      refine WL.nil ?_
      refine QT.n ?_
      refine WC.cond rfl (fun h25 => ?_) (fun h25 => ?_)
      · replace H := of_t H h25
        refine WC.seq ?_
        refine WC.region ?_
        refine WL.run 5 tt_ok sg0 rfl rfl trivial ?_
        refine WL.nil ?_
        refine QT.n ?_
        refine WC.nilT 4 enc_i64 rfl ?_
        refine WC.ret ?_
        refine QT.r ?_
        cases H
        exact Ends.auto rfl rfl rfl trivial
      replace H := of_f H h25
      refine WC.skip ?_
      refine QT.n ?_
      refine WC.seq ?_
      refine WC.region ?_
      refine WL.run 4 tt_ok sg0 rfl rfl trivial ?_
      refine WL.nil ?_
      refine QT.n ?_
      refine WC.freezeT 136 enc_i64 s9.2.2 rfl rfl rfl rfl ?_
      refine WC.ret ?_
      cases H
      exact Ends.auto rfl rfl rfl trivial
theorem ref11_Of_f : hasFunc Try.prog 13 Try.f13 := ⟨Try.func13, rfl, by kernel_rfl⟩

/-! ### logjam/logjamref12.Program -/
theorem ref12_Program_0 (a0 : T_api_Program) {r : Int × Int × Int} (H : ref12_Program a0 = some r) : LJ.Spec Try.prog 39 [.d (.agg [slT enc_api_Decl a0.Decls, slT enc_sl_sl_api_Need a0.Waits, slT enc_api_Func a0.Funcs])] [] (.tup [.d (.int .i64 r.1), .d (.int .i64 r.2.1), .d (.int .i64 r.2.2)]) [] := by
  refine LJ.Spec.code Try.func39 rfl 94 rfl rfl [] rfl fun w0 F0 S0 B0 => ?_
  unfold ref12_Program at H
  refine WC.seq ?_
  refine WC.region ?_
  refine WL.eff 101 tt_ok et_ok eg0 rfl rfl rfl trivial ?_
  refine WL.run 3 tt_ok sg0 rfl rfl trivial ?_
  refine WL.nil ?_
  refine QT.n ?_
  refine WC.seq ?_
  refine WC.seq ?_
  refine WC.region ?_
  refine WL.run 1 tt_ok sg0 rfl rfl trivial ?_
  obtain ⟨x1, hx1, H⟩ := of_bind H
  refine WL.call [] (ref10_Check_0 _ hx1) ref10_Check_f rfl rfl trivial rfl rfl rfl ?_
  refine WL.run 1 tt_ok sg0 rfl rfl trivial ?_
  refine WL.nil ?_
  refine QT.n ?_
  refine WC.seq ?_
  refine WC.region ?_
  refine WL.run 2 tt_ok sg0 rfl rfl trivial ?_
  refine WL.nil ?_
  refine QT.n ?_
  refine WC.cond rfl (fun h2 => ?_) (fun h2 => ?_)
  · replace H := of_t H h2
    refine WC.seq ?_
    refine WC.region ?_
    refine WL.run 4 tt_ok sg0 rfl rfl trivial ?_
    refine WL.nil ?_
    refine QT.n ?_
    refine WC.ret ?_
    refine QT.r ?_
    cases H
    exact Ends.auto rfl rfl rfl trivial
  replace H := of_f H h2
  refine WC.skip ?_
  refine QT.n ?_
  refine WC.seq ?_
  refine WC.seq ?_
  refine WC.region ?_
  obtain ⟨g3, H⟩ := of_need H
  refine WL.run 6 tt_ok sg0 rfl rfl ⟨⟨(nIn_ok g3).1, (nIn_ok g3).2, rfl⟩, trivial⟩ ?_
  refine WL.nil ?_
  refine QT.n ?_
  refine WC.cond rfl (fun h4 => ?_) (fun h4 => ?_)
  · replace H := of_t H h4
    refine WC.seq ?_
    refine WC.region ?_
    refine WL.run 3 tt_ok sg0 rfl rfl trivial ?_
    refine WL.nil ?_
    refine QT.n ?_
    refine WC.ret ?_
    refine QT.r ?_
    cases H
    exact Ends.auto rfl rfl rfl trivial
  replace H := of_f H h4
  refine WC.skip ?_
  refine QT.n ?_
  refine WC.seq ?_
  refine WC.seq ?_
  refine WC.region ?_
  refine WL.run 1 tt_ok sg0 rfl rfl trivial ?_
  refine WL.nil ?_
  refine QT.n ?_
  refine WC.block ?_
  refine WC.loop (ι := {x : Nat × Int // ref12_Program_l6 a0 x.1 x.2 = some r}) (fun x => [(1, .ptr 101 0), (6, .d (.int .i64 x.1.2))]) (fun x => [(101, .box 26 [.d (slT enc_api_Decl a0.Decls), .d (slT enc_sl_sl_api_Need a0.Waits), .d (slT enc_api_Func a0.Funcs)])]) (fun x => x.1.1) ⟨(fuel, 0), H⟩ (Less.mk' ⟨rfl, rfl, trivial⟩ ⟨rfl, trivial⟩) fun x => ?_
  obtain ⟨⟨k6, s5⟩, H⟩ := x
  rcases k6 with _ | k6
  · exact of_none H
  rw [ref12_Program_l6] at H
  refine WC.seq ?_
  refine WC.seq ?_
  refine WC.region ?_
  refine WL.run 5 tt_ok sg0 rfl rfl trivial ?_
  refine WL.nil ?_
  refine QT.n ?_
  refine WC.cond rfl (fun h7 => ?_) (fun h7 => ?_)
  · replace H := of_t H h7
    refine WC.skip ?_
    refine QT.n ?_
    obtain ⟨K8, hK8, H⟩ := of_withK H
    refine WC.cut (fun E m => ∃ s9 : Unit, K8 s9 = some r ∧ LessW E m [(1, .ptr 101 0), (6, .d (.int .i64 s5))] [(101, .box 26 [.d (slT enc_api_Decl a0.Decls), .d (slT enc_sl_sl_api_Need a0.Waits), .d (slT enc_api_Func a0.Funcs)])]) ?_ ?_
    · refine WC.block ?_
      refine WC.seq ?_
      refine WC.region ?_
      obtain ⟨g10, H⟩ := of_need H
      refine WL.run 5 tt_ok sg0 rfl rfl ⟨⟨(nIn_ok g10).1, (nIn_ok g10).2, rfl⟩, trivial⟩ ?_
      refine WL.alloc 107 tt_ok rfl rfl rfl ?_
      refine WL.eff 0 tt_ok et_ok eg0 rfl rfl rfl trivial ?_
      refine WL.nil ?_
      refine QT.n ?_
      refine WC.seq ?_
      refine WC.seq ?_
      refine WC.region ?_
      refine WL.run 1 tt_ok sg0 rfl rfl trivial ?_
      refine WL.nil ?_
      refine QT.n ?_
      refine WC.block ?_
      refine WC.loop (ι := {x : Nat × Int // ref12_Program_l12 a0 s5 K8 x.1 x.2 = some r}) (fun x => [(1, .ptr 101 0), (6, .d (.int .i64 s5)), (7, .ptr 107 0), (8, .d (.int .i64 x.1.2))]) (fun x => [(101, .box 26 [.d (slT enc_api_Decl a0.Decls), .d (slT enc_sl_sl_api_Need a0.Waits), .d (slT enc_api_Func a0.Funcs)]), (107, .box 58 [.d (.int .i64 ((a0.Funcs.getD s5.toNat default).Args)), .d (.int .i64 ((a0.Funcs.getD s5.toNat default).Locals)), .d (slT enc_api_Ins ((a0.Funcs.getD s5.toNat default).Code))])]) (fun x => x.1.1) ⟨(fuel, 0), H⟩ (Less.mk' ⟨rfl, rfl, rfl, rfl, trivial⟩ ⟨rfl, rfl, trivial⟩) fun x => ?_
      obtain ⟨⟨k12, s11⟩, H⟩ := x
      rcases k12 with _ | k12
      · exact of_none H
      rw [ref12_Program_l12] at H
      refine WC.seq ?_
      refine WC.seq ?_
      refine WC.region ?_
      refine WL.run 5 tt_ok sg0 rfl rfl trivial ?_
      refine WL.nil ?_
      refine QT.n ?_
      refine WC.cond rfl (fun h13 => ?_) (fun h13 => ?_)
      · replace H := of_t H h13
        refine WC.skip ?_
        refine QT.n ?_
        obtain ⟨K14, hK14, H⟩ := of_withK H
        refine WC.cut (fun E m => ∃ s15 : Unit, K14 s15 = some r ∧ LessW E m [(1, .ptr 101 0), (6, .d (.int .i64 s5)), (7, .ptr 107 0), (8, .d (.int .i64 s11))] [(101, .box 26 [.d (slT enc_api_Decl a0.Decls), .d (slT enc_sl_sl_api_Need a0.Waits), .d (slT enc_api_Func a0.Funcs)]), (107, .box 58 [.d (.int .i64 ((a0.Funcs.getD s5.toNat default).Args)), .d (.int .i64 ((a0.Funcs.getD s5.toNat default).Locals)), .d (slT enc_api_Ins ((a0.Funcs.getD s5.toNat default).Code))])]) ?_ ?_
        · refine WC.block ?_
          refine WC.seq ?_
          refine WC.region ?_
          obtain ⟨g16, H⟩ := of_need H
          refine WL.run 5 tt_ok sg0 rfl rfl ⟨⟨(nIn_ok g16).1, (nIn_ok g16).2, rfl⟩, trivial⟩ ?_
          refine WL.alloc 109 tt_ok rfl rfl rfl ?_
          refine WL.eff 0 tt_ok et_ok eg0 rfl rfl rfl trivial ?_
          refine WL.nil ?_
          refine QT.n ?_
          refine WC.seq ?_
          obtain ⟨x14_2_1, hx14_2_1, H⟩ := of_bind H
          refine WC.heldF [(1, .ptr 101 0), (6, .d (.int .i64 s5)), (7, .ptr 107 0), (8, .d (.int .i64 s11)), (9, .ptr 109 0), (10, .d (.str x14_2_1)), (11, .d (slT enc_i64 ([(((a0.Funcs.getD s5.toNat default).Code).getD s11.toNat default).A, (((a0.Funcs.getD s5.toNat default).Code).getD s11.toNat default).B] : List Int)))] [(101, .box 26 [.d (slT enc_api_Decl a0.Decls), .d (slT enc_sl_sl_api_Need a0.Waits), .d (slT enc_api_Func a0.Funcs)]), (107, .box 58 [.d (.int .i64 ((a0.Funcs.getD s5.toNat default).Args)), .d (.int .i64 ((a0.Funcs.getD s5.toNat default).Locals)), .d (slT enc_api_Ins ((a0.Funcs.getD s5.toNat default).Code))]), (109, .box 55 [.d (.int .i64 ((((a0.Funcs.getD s5.toNat default).Code).getD s11.toNat default).Op)), .d (.int .i64 ((((a0.Funcs.getD s5.toNat default).Code).getD s11.toNat default).A)), .d (.int .i64 ((((a0.Funcs.getD s5.toNat default).Code).getD s11.toNat default).B))])] (.one 0 true (.one 1 true (.one 3 true (.one 4 true (.one 5 true (.one 6 true (.fork (.one 2 false (.one 8 true (.one 7 false (.one 9 true .done)))) (.one 7 false (.one 2 false (.one 8 true (.one 9 true .done))))))))))) [101, 107, 109] [101, 107, 109] rfl (by kernel_rfl) rfl (by kernel_rfl) rfl rfl (fun _ h => h) rfl rfl rfl (fun FK NK wK K => ?_) ?_
          · refine WH.run 6 tt_ok rfl rfl rfl rfl trivial ?_
            refine WH.fork ?_ ?_
            · refine WH.call [] rfl (ref06_Form_0 _ hx14_2_1) ref06_Form_f rfl rfl trivial rfl rfl rfl rfl rfl ?_
              refine WH.run 1 tt_ok rfl rfl rfl rfl trivial ?_
              refine WH.eff 159 tt_ok et_ok rfl rfl rfl rfl trivial rfl rfl ?_
              refine WH.freezeT 159 enc_i64 ([(((a0.Funcs.getD s5.toNat default).Code).getD s11.toNat default).A, (((a0.Funcs.getD s5.toNat default).Code).getD s11.toNat default).B] : List Int) rfl rfl rfl rfl ?_
              refine WH.mv rfl rfl rfl rfl rfl rfl rfl rfl rfl ?_
              exact WH.nilF rfl (LessW.mk' ⟨AVle.of rfl, AVle.of rfl, AVle.of rfl, AVle.of rfl, AVle.of rfl, AVle.of rfl, AVle.of rfl, trivial⟩ ⟨rfl, rfl, rfl, trivial⟩)
            · refine WH.eff 159 tt_ok et_ok rfl rfl rfl rfl trivial rfl rfl ?_
              refine WH.freezeT 159 enc_i64 ([(((a0.Funcs.getD s5.toNat default).Code).getD s11.toNat default).A, (((a0.Funcs.getD s5.toNat default).Code).getD s11.toNat default).B] : List Int) rfl rfl rfl rfl ?_
              refine WH.call [] rfl (ref06_Form_0 _ hx14_2_1) ref06_Form_f rfl rfl trivial rfl rfl rfl rfl rfl ?_
              refine WH.run 1 tt_ok rfl rfl rfl rfl trivial ?_
              refine WH.mv rfl rfl rfl rfl rfl rfl rfl rfl rfl ?_
              exact WH.nilF rfl (LessW.mk' ⟨AVle.of rfl, AVle.of rfl, AVle.of rfl, AVle.of rfl, AVle.of rfl, AVle.of rfl, AVle.of rfl, trivial⟩ ⟨rfl, rfl, rfl, trivial⟩)
          · refine QT.n ?_
            refine WC.seq ?_
            refine WC.region ?_
            refine WL.run 1 tt_ok sg0 rfl rfl trivial ?_
            refine WL.nil ?_
            refine QT.n ?_
            refine WC.block ?_
            refine WC.loop (ι := {x : Nat × Int // ref12_Program_l18 a0 s5 s11 x14_2_1 K14 x.1 x.2 = some r}) (fun x => [(1, .ptr 101 0), (6, .d (.int .i64 s5)), (7, .ptr 107 0), (8, .d (.int .i64 s11)), (9, .ptr 109 0), (10, .d (.str x14_2_1)), (11, .d (slT enc_i64 ([(((a0.Funcs.getD s5.toNat default).Code).getD s11.toNat default).A, (((a0.Funcs.getD s5.toNat default).Code).getD s11.toNat default).B] : List Int))), (12, .d (.int .i64 x.1.2))]) (fun x => [(101, .box 26 [.d (slT enc_api_Decl a0.Decls), .d (slT enc_sl_sl_api_Need a0.Waits), .d (slT enc_api_Func a0.Funcs)]), (107, .box 58 [.d (.int .i64 ((a0.Funcs.getD s5.toNat default).Args)), .d (.int .i64 ((a0.Funcs.getD s5.toNat default).Locals)), .d (slT enc_api_Ins ((a0.Funcs.getD s5.toNat default).Code))]), (109, .box 55 [.d (.int .i64 ((((a0.Funcs.getD s5.toNat default).Code).getD s11.toNat default).Op)), .d (.int .i64 ((((a0.Funcs.getD s5.toNat default).Code).getD s11.toNat default).A)), .d (.int .i64 ((((a0.Funcs.getD s5.toNat default).Code).getD s11.toNat default).B))])]) (fun x => x.1.1) ⟨(fuel, 0), H⟩ (Less.mk' ⟨rfl, rfl, rfl, rfl, rfl, rfl, rfl, rfl, trivial⟩ ⟨rfl, rfl, rfl, trivial⟩) fun x => ?_
            obtain ⟨⟨k18, s17⟩, H⟩ := x
            rcases k18 with _ | k18
            · exact of_none H
            rw [ref12_Program_l18] at H
            refine WC.seq ?_
            refine WC.seq ?_
            refine WC.region ?_
            refine WL.run 4 tt_ok sg0 rfl rfl trivial ?_
            refine WL.nil ?_
            refine QT.n ?_
            refine WC.cond rfl (fun h19 => ?_) (fun h19 => ?_)
            · replace H := of_t H h19
              refine WC.skip ?_
              refine QT.n ?_
              refine WC.seq ?_
              refine WC.block ?_
              refine WC.seq ?_
              refine WC.heldP (.one 0 true (.one 1 true (.one 2 true (.one 3 true (.one 4 true (.one 5 true (.one 6 true (.one 7 true (.one 8 true (.one 9 true (.one 10 false (.one 11 true .done)))))))))))) [101, 107, 109] [101, 107, 109] rfl (by kernel_rfl) rfl (by kernel_rfl) rfl rfl (fun _ h => h) rfl rfl rfl (fun _ _ _ h => h) fun FK NK wK K => ?_
              obtain ⟨g20, H⟩ := of_need H
              obtain ⟨g21, H⟩ := of_need H
              refine WH.run 10 tt_ok rfl rfl rfl rfl ⟨(nIn_ok g20), ⟨(nIn_ok g21).1, (nIn_ok g21).2, rfl⟩, trivial⟩ ?_
              obtain ⟨x22, hx22, H⟩ := of_bind H
              refine WH.call [] rfl (ref12_operand_0 _ _ _ _ _ hx22) ref12_operand_f rfl rfl trivial rfl rfl rfl rfl rfl ?_
              refine WH.run 1 tt_ok rfl rfl rfl rfl trivial ?_
              refine WH.nil rfl ?_
              refine QT.n ?_
              refine WC.seq ?_
              refine WC.region ?_
              refine WL.run 2 tt_ok sg0 rfl rfl trivial ?_
              refine WL.nil ?_
              refine QT.n ?_
              refine WC.cond rfl (fun h23 => ?_) (fun h23 => ?_)
              · replace H := of_t H h23
                refine WC.seq ?_
                refine WC.region ?_
                refine WL.run 6 tt_ok sg0 rfl rfl trivial ?_
                refine WL.nil ?_
                refine QT.n ?_
                refine WC.ret ?_
                refine QB.r (QT.r (QT.r (QB.r (QB.r (QT.r (QT.r (QB.r (QT.r (QB.r (QT.r (QT.r (QB.r (QT.r ?_)))))))))))))
                cases H
                exact Ends.auto rfl rfl rfl trivial
              replace H := of_f H h23
              refine WC.skip ?_
              refine QB.n (QT.n ?_)
              refine WC.region ?_
              refine WL.run 3 tt_ok sg0 rfl rfl trivial ?_
              refine WL.nil ?_
              refine QT.n ?_
              exact ⟨⟨(k18, IntKind.i64.wrap (s17 + 1)), H⟩, Nat.lt_succ_self _, Less.mk' ⟨rfl, rfl, rfl, rfl, rfl, rfl, rfl, rfl, trivial⟩ ⟨rfl, rfl, rfl, trivial⟩⟩
            replace H := of_f H h19
            refine WC.exit ?_
            refine QT.x (QT.x (QB.hit (QB.n (QT.n ?_))))
            exact ⟨Unit.unit, H, LessW.mk' ⟨AVle.of rfl, AVle.of rfl, AVle.of rfl, AVle.of rfl, trivial⟩ ⟨rfl, rfl, trivial⟩⟩
        · rintro E m ⟨s15, H, hl⟩
          refine WC.lessW hl ?_
          replace H := (hK14 _).symm.trans H
          try dsimp only at H
          refine WC.region ?_
          refine WL.run 3 tt_ok sg0 rfl rfl trivial ?_
          refine WL.nil ?_
          refine QT.n ?_
          exact ⟨⟨(k12, IntKind.i64.wrap (s11 + 1)), H⟩, Nat.lt_succ_self _, Less.mk' ⟨rfl, rfl, rfl, rfl, trivial⟩ ⟨rfl, rfl, trivial⟩⟩
      replace H := of_f H h13
      refine WC.exit ?_
      refine QT.x (QT.x (QB.hit (QT.n ?_)))
      refine WC.seq ?_
      refine WC.region ?_
      refine WL.run 2 tt_ok sg0 rfl rfl trivial ?_
      obtain ⟨x24, hx24, H⟩ := of_bind H
      refine WL.call [] (ref11_Of_0 _ _ hx24) ref11_Of_f rfl rfl trivial rfl rfl rfl ?_
      refine WL.run 7 tt_ok sg0 rfl rfl trivial ?_
      refine WL.nil ?_
      refine QT.n ?_
      refine WC.seq ?_
      refine WC.region ?_
      refine WL.run 2 tt_ok sg0 rfl rfl trivial ?_
      refine WL.nil ?_
      refine QT.n ?_
      refine WC.cond rfl (fun h25 => ?_) (fun h25 => ?_)
      · replace H := of_t H h25
        refine WC.seq ?_
        refine WC.region ?_
        refine WL.run 6 tt_ok sg0 rfl rfl trivial ?_
        refine WL.nil ?_
        refine QT.n ?_
        refine WC.ret ?_
        refine QB.r (QT.r (QT.r (QB.r (QT.r ?_))))
        cases H
        exact Ends.auto rfl rfl rfl trivial
      replace H := of_f H h25
      refine WC.skip ?_
      refine QB.n (QT.n ?_)
      exact ⟨Unit.unit, H, LessW.mk' ⟨AVle.of rfl, AVle.of rfl, trivial⟩ ⟨rfl, trivial⟩⟩
    · rintro E m ⟨s9, H, hl⟩
      refine WC.lessW hl ?_
      replace H := (hK8 _).symm.trans H
      try dsimp only at H
      refine WC.region ?_
      refine WL.run 3 tt_ok sg0 rfl rfl trivial ?_
      refine WL.nil ?_
      refine QT.n ?_
      exact ⟨⟨(k6, IntKind.i64.wrap (s5 + 1)), H⟩, Nat.lt_succ_self _, Less.mk' ⟨rfl, rfl, trivial⟩ ⟨rfl, trivial⟩⟩
  replace H := of_f H h7
  refine WC.exit ?_
  refine QT.x (QT.x (QB.hit (QT.n ?_)))
  refine WC.seq ?_
  refine WC.region ?_
  refine WL.run 3 tt_ok sg0 rfl rfl trivial ?_
  refine WL.nil ?_
  refine QT.n ?_
  refine WC.ret ?_
  cases H
  exact Ends.auto rfl rfl rfl trivial
theorem ref12_Program_f : hasFunc Try.prog 39 Try.f39 := ⟨Try.func39, rfl, by kernel_rfl⟩

/-! ### logjam/logjamref12.Good -/
theorem ref12_Good_0 (a0 : T_api_Program) {r : Bool} (H : ref12_Good a0 = some r) : LJ.Spec Try.prog 16 [.d (.agg [slT enc_api_Decl a0.Decls, slT enc_sl_sl_api_Need a0.Waits, slT enc_api_Func a0.Funcs])] [] (.d (.bool r)) [] := by
  refine LJ.Spec.code Try.func16 rfl 14 rfl rfl [] rfl fun w0 F0 S0 B0 => ?_
  unfold ref12_Good at H
  refine WC.seq ?_
  refine WC.region ?_
  refine WL.eff 101 tt_ok et_ok eg0 rfl rfl rfl trivial ?_
  refine WL.run 1 tt_ok sg0 rfl rfl trivial ?_
  refine WL.nil ?_
  refine QT.n ?_
  refine WC.seq ?_
  refine WC.region ?_
  refine WL.run 1 tt_ok sg0 rfl rfl trivial ?_
  obtain ⟨x1, hx1, H⟩ := of_bind H
  refine WL.call [] (ref12_Program_0 _ hx1) ref12_Program_f rfl rfl trivial rfl rfl rfl ?_
  refine WL.run 7 tt_ok sg0 rfl rfl trivial ?_
  refine WL.nil ?_
  refine QT.n ?_
  refine WC.seq ?_
  refine WC.region ?_
  refine WL.run 3 tt_ok sg0 rfl rfl trivial ?_
  refine WL.nil ?_
  refine QT.n ?_
  refine WC.ret ?_
  cases H
  exact Ends.auto rfl rfl rfl trivial
theorem ref12_Good_f : hasFunc Try.prog 16 Try.f16 := ⟨Try.func16, rfl, by kernel_rfl⟩

/-! ### logjam/logjamref03.Low -/
theorem ref03_Low_0 (a0 : Int) {r : Int} (H : ref03_Low a0 = some r) : LJ.Spec Try.prog 51 [.d (.int .i64 a0)] [] (.d (.int .i64 r)) [] := by
  refine LJ.Spec.code Try.func51 rfl 15 rfl rfl [] rfl fun w0 F0 S0 B0 => ?_
  unfold ref03_Low at H
  refine WC.seq ?_
  refine WC.region ?_
  refine WL.run 1 tt_ok sg0 rfl rfl trivial ?_
  refine WL.nil ?_
  refine QT.n ?_
  refine WC.seq ?_
  refine WC.region ?_
  refine WL.run 3 tt_ok sg0 rfl rfl trivial ?_
  refine WL.nil ?_
  refine QT.n ?_
  refine WC.seq ?_
  refine WC.seq ?_
  refine WC.region ?_
  refine WL.run 2 tt_ok sg0 rfl rfl trivial ?_
  refine WL.nil ?_
  refine QT.n ?_
  refine WC.cond rfl (fun h1 => ?_) (fun h1 => ?_)
  · replace H := of_t H h1
    refine WC.seq ?_
    refine WC.region ?_
    refine WL.run 3 tt_ok sg0 rfl rfl trivial ?_
    refine WL.nil ?_
    refine QT.n ?_
    refine WC.ret ?_
    refine QT.r ?_
    cases H
    exact Ends.auto rfl rfl rfl trivial
  replace H := of_f H h1
  refine WC.skip ?_
  refine QT.n ?_
  refine WC.seq ?_
  refine WC.seq ?_
  refine WC.region ?_
  refine WL.run 2 tt_ok sg0 rfl rfl trivial ?_
  refine WL.nil ?_
  refine QT.n ?_
  refine WC.cond rfl (fun h2 => ?_) (fun h2 => ?_)
  · replace H := of_t H h2
    refine WC.seq ?_
    refine WC.region ?_
    refine WL.run 3 tt_ok sg0 rfl rfl trivial ?_
    refine WL.nil ?_
    refine QT.n ?_
    refine WC.ret ?_
    refine QT.r ?_
    cases H
    exact Ends.auto rfl rfl rfl trivial
  replace H := of_f H h2
  refine WC.skip ?_
  refine QT.n ?_
  refine WC.seq ?_
  refine WC.region ?_
  refine WL.run 2 tt_ok sg0 rfl rfl trivial ?_
  refine WL.nil ?_
  refine QT.n ?_
  refine WC.ret ?_
  cases H
  exact Ends.auto rfl rfl rfl trivial
theorem ref03_Low_f : hasFunc Try.prog 51 Try.f51 := ⟨Try.func51, rfl, by kernel_rfl⟩

/-! ### logjam/logjamref14.New -/
theorem ref14_New_0 (a0 : Int) (a1 : List Int) {r : List T_api_Frame} (H : ref14_New a0 a1 = some r) : LJ.Spec Try.prog 40 [.d (.int .i64 a0), .d (slT enc_i64 a1)] [] (.d (slT enc_api_Frame r)) [] := by
  refine LJ.Spec.code Try.func40 rfl 29 rfl rfl [] rfl fun w0 F0 S0 B0 => ?_
  unfold ref14_New at H
  refine WC.seq ?_
  refine WC.region ?_
  refine WL.run 1 tt_ok sg0 rfl rfl trivial ?_
  refine WL.nil ?_
  refine QT.n ?_
  refine WC.seq ?_
  refine WC.region ?_
  refine WL.run 2 tt_ok sg0 rfl rfl trivial ?_
  refine WL.alloc 105 tt_ok rfl rfl rfl ?_
  refine WL.eff 0 tt_ok et_ok eg0 rfl rfl rfl trivial ?_
  refine WL.nil ?_
  refine QT.n ?_
  refine WC.seq ?_
  refine WC.seq ?_
  refine WC.region ?_
  refine WL.run 1 tt_ok sg0 rfl rfl trivial ?_
  refine WL.nil ?_
  refine QT.n ?_
  refine WC.block ?_
  refine WC.loop (ι := {x : Nat × (Int × (List Int)) // ref14_New_l2 a0 a1 x.1 x.2 = some r}) (fun x => [(1, .d (slT enc_i64 a1)), (5, .ptr 105 0), (6, .d (.int .i64 x.1.2.1))]) (fun x => [(105, .box 45 [.d (.int .i64 a0), .d (.int .i64 0), .d (.int .i64 0), .d (.int .i64 (x.1.2.2.getD 0 default)), .d (.int .i64 (x.1.2.2.getD 1 default)), .d (.int .i64 (x.1.2.2.getD 2 default)), .d (.int .i64 (x.1.2.2.getD 3 default)), .d (.int .i64 (x.1.2.2.getD 4 default)), .d (.int .i64 (x.1.2.2.getD 5 default)), .d (.int .i64 (x.1.2.2.getD 6 default)), .d (.int .i64 (x.1.2.2.getD 7 default)), .d (.int .i64 0), .d (.int .i64 0), .d (.int .i64 0), .d (.int .i64 0), .d (.int .i64 0), .d (.int .i64 0), .d (.int .i64 0), .d (.int .i64 0), .d (.int .i64 0), .d (.int .i64 0), .d (.int .i64 0), .d (.int .i64 0), .d (.int .i64 0), .d (.int .i64 0), .d (.int .i64 0), .d (.int .i64 0)])]) (fun x => x.1.1) ⟨(fuel, (0, ([0, 0, 0, 0, 0, 0, 0, 0] : List Int))), H⟩ (Less.mk' ⟨rfl, rfl, rfl, trivial⟩ ⟨rfl, trivial⟩) fun x => ?_
  obtain ⟨⟨k2, s1⟩, H⟩ := x
  rcases k2 with _ | k2
  · exact of_none H
  rw [ref14_New_l2] at H
  refine WC.seq ?_
  refine WC.seq ?_
  refine WC.region ?_
  refine WL.run 5 tt_ok sg0 rfl rfl trivial ?_
  refine WL.sect 2 4 true tt_ok sg0 rfl rfl (fun _ => trivial) ?_
  refine WL.run 1 tt_ok sg0 rfl rfl ⟨by first | exact id | exact fun h => by rw [h]; rfl | simp_all, trivial⟩ ?_
  refine WL.nil ?_
  refine QT.n ?_
  refine WC.cond rfl (fun h3 => ?_) (fun h3 => ?_)
  · replace H := of_t H h3
    refine WC.skip ?_
    refine QT.n ?_
    refine WC.seq ?_
    refine WC.block ?_
    refine WC.region ?_
    obtain ⟨g4, H⟩ := of_need H
    refine WL.run 5 tt_ok sg0 rfl rfl ⟨⟨(nIn_ok g4).1, (nIn_ok g4).2, rfl⟩, trivial⟩ ?_
    obtain ⟨x5, hx5, H⟩ := of_bind H
    refine WL.call [] (ref03_Low_0 _ hx5) ref03_Low_f rfl rfl trivial rfl rfl rfl ?_
    refine WL.run 1 tt_ok sg0 rfl rfl trivial ?_
    obtain ⟨g6, H⟩ := of_need H
    refine WL.yv (LJ.Y.idxPtrA 8 s1.1 (by kernel_rfl) rfl rfl rfl (nIn_ok g6)) rfl rfl rfl ?_
    refine WL.wo (WO.storePtrA 8 3 (fun x : Int => DV.int .i64 x) s1.2 x5 s1.1 (cs' := [.d (.int .i64 a0), .d (.int .i64 0), .d (.int .i64 0), .d (.int .i64 ((aset 8 s1.2 s1.1.toNat x5).getD 0 default)), .d (.int .i64 ((aset 8 s1.2 s1.1.toNat x5).getD 1 default)), .d (.int .i64 ((aset 8 s1.2 s1.1.toNat x5).getD 2 default)), .d (.int .i64 ((aset 8 s1.2 s1.1.toNat x5).getD 3 default)), .d (.int .i64 ((aset 8 s1.2 s1.1.toNat x5).getD 4 default)), .d (.int .i64 ((aset 8 s1.2 s1.1.toNat x5).getD 5 default)), .d (.int .i64 ((aset 8 s1.2 s1.1.toNat x5).getD 6 default)), .d (.int .i64 ((aset 8 s1.2 s1.1.toNat x5).getD 7 default)), .d (.int .i64 0), .d (.int .i64 0), .d (.int .i64 0), .d (.int .i64 0), .d (.int .i64 0), .d (.int .i64 0), .d (.int .i64 0), .d (.int .i64 0), .d (.int .i64 0), .d (.int .i64 0), .d (.int .i64 0), .d (.int .i64 0), .d (.int .i64 0), .d (.int .i64 0), .d (.int .i64 0), .d (.int .i64 0)]) rfl rfl rfl rfl rfl (by kernel_rfl) rfl rfl (nIn_ok g6) rfl rfl rfl) rfl ?_
    refine WL.nil ?_
    refine QB.n (QT.n ?_)
    refine WC.region ?_
    refine WL.run 3 tt_ok sg0 rfl rfl trivial ?_
    refine WL.nil ?_
    refine QT.n ?_
    exact ⟨⟨(k2, (IntKind.i64.wrap (s1.1 + 1), (aset 8 s1.2 s1.1.toNat x5))), H⟩, Nat.lt_succ_self _, Less.mk' ⟨rfl, rfl, rfl, trivial⟩ ⟨rfl, trivial⟩⟩
  replace H := of_f H h3
  refine WC.exit ?_
  refine QT.x (QT.x (QB.hit (QT.n ?_)))
  refine WC.seq ?_
  refine WC.region ?_
  refine WL.run 1 tt_ok sg0 rfl rfl trivial ?_
  refine WL.eff 128 tt_ok et_ok eg0 rfl rfl rfl trivial ?_
  refine WL.freezeT 128 enc_api_Frame ([(⟨a0, 0, 0, s1.2, ([0, 0, 0, 0, 0, 0, 0, 0, 0, 0, 0, 0, 0, 0, 0, 0] : List Int)⟩ : T_api_Frame)] : List T_api_Frame) rfl rfl rfl rfl ?_
  refine WL.run 1 tt_ok sg0 rfl rfl trivial ?_
  refine WL.nil ?_
  refine QT.n ?_
  refine WC.ret ?_
  cases H
  exact Ends.auto rfl rfl rfl trivial
theorem ref14_New_f : hasFunc Try.prog 40 Try.f40 := ⟨Try.func40, rfl, by kernel_rfl⟩

/-! ### logjam/logjamref15.At -/
theorem ref15_At_0 (a0 : T_api_Program) (a1 : List T_api_Frame) {r : T_api_Ins} (H : ref15_At a0 a1 = some r) : LJ.Spec Try.prog 26 [.d (.agg [slT enc_api_Decl a0.Decls, slT enc_sl_sl_api_Need a0.Waits, slT enc_api_Func a0.Funcs]), .d (slT enc_api_Frame a1)] [] (.d (.agg [.int .i64 r.Op, .int .i64 r.A, .int .i64 r.B])) [] := by
  refine LJ.Spec.code Try.func26 rfl 23 rfl rfl [] rfl fun w0 F0 S0 B0 => ?_
  unfold ref15_At at H
  refine WC.seq ?_
  refine WC.region ?_
  refine WL.eff 102 tt_ok et_ok eg0 rfl rfl rfl trivial ?_
  refine WL.alloc 104 tt_ok rfl rfl rfl ?_
  refine WL.nil ?_
  refine QT.n ?_
  refine WC.seq ?_
  refine WC.region ?_
  obtain ⟨g1, H⟩ := of_need H
  refine WL.run 6 tt_ok sg0 rfl rfl ⟨⟨(nIn_ok g1).1, (nIn_ok g1).2, rfl⟩, trivial⟩ ?_
  refine WL.alloc 105 tt_ok rfl rfl rfl ?_
  refine WL.eff 0 tt_ok et_ok eg0 rfl rfl rfl trivial ?_
  refine WL.nil ?_
  refine QT.n ?_
  refine WC.seq ?_
  refine WC.heldP (.one 0 true (.one 1 true (.one 2 true (.one 3 true (.one 4 true (.one 5 true (.one 6 true (.one 7 true (.one 8 true (.one 9 true (.one 10 true (.one 11 false .done)))))))))))) [102, 104, 105] [102, 105] rfl (by kernel_rfl) rfl (by kernel_rfl) rfl rfl (fun _ h => h) rfl rfl rfl (fun _ _ _ h => h) fun FK NK wK K => ?_
  obtain ⟨g2, H⟩ := of_need H
  obtain ⟨g3, H⟩ := of_need H
  refine WH.run 11 tt_ok rfl rfl rfl rfl ⟨⟨(nIn_ok g2).1, (nIn_ok g2).2, rfl⟩, ⟨(nIn_ok g3).1, (nIn_ok g3).2, rfl⟩, trivial⟩ ?_
  refine WH.eff 0 tt_ok et_ok rfl rfl rfl rfl trivial rfl rfl ?_
  refine WH.nil rfl ?_
  refine QT.n ?_
  refine WC.ret ?_
  cases H
  exact Ends.autoC tt_ok rfl rfl rfl trivial
theorem ref15_At_f : hasFunc Try.prog 26 Try.f26 := ⟨Try.func26, rfl, by kernel_rfl⟩

/-! ### logjam/logjamref14.with -/
theorem ref14_with_0 (a0 : List T_api_Frame) (a1 : T_api_Frame) {r : List T_api_Frame} (H : ref14_with a0 a1 = some r) : LJ.Spec Try.prog 49 [.d (slT enc_api_Frame a0), .d (.agg [.int .i64 a1.Fn, .int .i64 a1.Pc, .int .i64 a1.N, .int .i64 (a1.L.getD 0 default), .int .i64 (a1.L.getD 1 default), .int .i64 (a1.L.getD 2 default), .int .i64 (a1.L.getD 3 default), .int .i64 (a1.L.getD 4 default), .int .i64 (a1.L.getD 5 default), .int .i64 (a1.L.getD 6 default), .int .i64 (a1.L.getD 7 default), .int .i64 (a1.S.getD 0 default), .int .i64 (a1.S.getD 1 default), .int .i64 (a1.S.getD 2 default), .int .i64 (a1.S.getD 3 default), .int .i64 (a1.S.getD 4 default), .int .i64 (a1.S.getD 5 default), .int .i64 (a1.S.getD 6 default), .int .i64 (a1.S.getD 7 default), .int .i64 (a1.S.getD 8 default), .int .i64 (a1.S.getD 9 default), .int .i64 (a1.S.getD 10 default), .int .i64 (a1.S.getD 11 default), .int .i64 (a1.S.getD 12 default), .int .i64 (a1.S.getD 13 default), .int .i64 (a1.S.getD 14 default), .int .i64 (a1.S.getD 15 default)])] [] (.own 0) [(0, .row 45 27 (r.map enc_api_Frame))] := by
  refine LJ.Spec.code Try.func49 rfl 15 rfl rfl [] rfl fun w0 F0 S0 B0 => ?_
  unfold ref14_with at H
  refine WC.seq ?_
  refine WC.region ?_
  refine WL.eff 103 tt_ok et_ok eg0 rfl rfl rfl trivial ?_
  refine WL.run 1 tt_ok sg0 rfl rfl trivial ?_
  refine WL.nil ?_
  refine QT.n ?_
  refine WC.seq ?_
  obtain ⟨g1_5_1, H⟩ := of_need H
  obtain ⟨g1_6_1, H⟩ := of_need H
  obtain ⟨g1_9_1, H⟩ := of_need H
  refine WC.heldF [(4, .own 0)] [(0, .row 45 27 (((([] : List T_api_Frame) ++ ((a0.take (IntKind.i64.wrap ((a0.length : Int) - 1)).toNat).drop (0 : Int).toNat)) ++ ([a1] : List T_api_Frame)).map enc_api_Frame))] (.one 1 true (.one 2 true (.one 3 true (.one 4 true (.one 5 true (.one 7 true (.fork (.one 0 false (.fork (.one 6 false (.one 8 false (.one 9 false (.one 10 true .done)))) (.one 8 false (.one 6 false (.one 9 false (.one 10 true .done)))))) (.one 8 false (.one 0 false (.one 6 false (.one 9 false (.one 10 true .done)))))))))))) [103] [103] rfl (by kernel_rfl) rfl (by kernel_rfl) rfl rfl (fun _ h => h) rfl rfl rfl (fun FK NK wK K => ?_) ?_
  · refine WH.run 4 tt_ok rfl rfl rfl rfl trivial ?_
    refine WH.yv rfl (LJ.Y.sliceT enc_api_Frame a0 tt_ok rfl (fun _ => rfl) none (some (.tmp 9)) (0 : Int) (IntKind.i64.wrap ((a0.length : Int) - 1)) rfl rfl ⟨_, rfl⟩ rfl rfl (nSl_ok g1_5_1)) rfl rfl rfl ?_
    refine WH.run 1 tt_ok rfl rfl rfl rfl trivial ?_
    refine WH.fork ?_ ?_
    · refine WH.eff 0 tt_ok et_ok rfl rfl rfl rfl trivial rfl rfl ?_
      refine WH.fork ?_ ?_
      · refine WH.row 0 (([] : List T_api_Frame).map enc_api_Frame) rfl rfl rfl ?_
        refine WH.appT enc_api_Frame ([] : List T_api_Frame) ((a0.take (IntKind.i64.wrap ((a0.length : Int) - 1)).toNat).drop (0 : Int).toNat) tt_ok et_ok rfl rfl (fun _ => rfl) (fun _ => rfl) rfl rfl rfl rfl rfl (nCap_ok g1_6_1) rfl rfl rfl rfl rfl rfl rfl ?_
        refine WH.eff 113 tt_ok et_ok rfl rfl rfl rfl trivial rfl rfl ?_
        refine WH.freezeT 113 enc_api_Frame ([a1] : List T_api_Frame) rfl rfl rfl rfl ?_
        refine WH.appT enc_api_Frame (([] : List T_api_Frame) ++ ((a0.take (IntKind.i64.wrap ((a0.length : Int) - 1)).toNat).drop (0 : Int).toNat)) ([a1] : List T_api_Frame) tt_ok et_ok rfl rfl (fun _ => rfl) (fun _ => rfl) rfl rfl rfl rfl rfl (nCap_ok g1_9_1) rfl rfl rfl rfl rfl rfl rfl ?_
        refine WH.mv rfl rfl rfl rfl rfl rfl rfl rfl rfl ?_
        exact WH.nilF rfl (LessW.mk' ⟨AVle.of rfl, trivial⟩ ⟨rfl, trivial⟩)
      · refine WH.eff 113 tt_ok et_ok rfl rfl rfl rfl trivial rfl rfl ?_
        refine WH.freezeT 113 enc_api_Frame ([a1] : List T_api_Frame) rfl rfl rfl rfl ?_
        refine WH.row 0 (([] : List T_api_Frame).map enc_api_Frame) rfl rfl rfl ?_
        refine WH.appT enc_api_Frame ([] : List T_api_Frame) ((a0.take (IntKind.i64.wrap ((a0.length : Int) - 1)).toNat).drop (0 : Int).toNat) tt_ok et_ok rfl rfl (fun _ => rfl) (fun _ => rfl) rfl rfl rfl rfl rfl (nCap_ok g1_6_1) rfl rfl rfl rfl rfl rfl rfl ?_
        refine WH.appT enc_api_Frame (([] : List T_api_Frame) ++ ((a0.take (IntKind.i64.wrap ((a0.length : Int) - 1)).toNat).drop (0 : Int).toNat)) ([a1] : List T_api_Frame) tt_ok et_ok rfl rfl (fun _ => rfl) (fun _ => rfl) rfl rfl rfl rfl rfl (nCap_ok g1_9_1) rfl rfl rfl rfl rfl rfl rfl ?_
        refine WH.mv rfl rfl rfl rfl rfl rfl rfl rfl rfl ?_
        exact WH.nilF rfl (LessW.mk' ⟨AVle.of rfl, trivial⟩ ⟨rfl, trivial⟩)
    · refine WH.eff 113 tt_ok et_ok rfl rfl rfl rfl trivial rfl rfl ?_
      refine WH.freezeT 113 enc_api_Frame ([a1] : List T_api_Frame) rfl rfl rfl rfl ?_
      refine WH.eff 0 tt_ok et_ok rfl rfl rfl rfl trivial rfl rfl ?_
      refine WH.row 0 (([] : List T_api_Frame).map enc_api_Frame) rfl rfl rfl ?_
      refine WH.appT enc_api_Frame ([] : List T_api_Frame) ((a0.take (IntKind.i64.wrap ((a0.length : Int) - 1)).toNat).drop (0 : Int).toNat) tt_ok et_ok rfl rfl (fun _ => rfl) (fun _ => rfl) rfl rfl rfl rfl rfl (nCap_ok g1_6_1) rfl rfl rfl rfl rfl rfl rfl ?_
      refine WH.appT enc_api_Frame (([] : List T_api_Frame) ++ ((a0.take (IntKind.i64.wrap ((a0.length : Int) - 1)).toNat).drop (0 : Int).toNat)) ([a1] : List T_api_Frame) tt_ok et_ok rfl rfl (fun _ => rfl) (fun _ => rfl) rfl rfl rfl rfl rfl (nCap_ok g1_9_1) rfl rfl rfl rfl rfl rfl rfl ?_
      refine WH.mv rfl rfl rfl rfl rfl rfl rfl rfl rfl ?_
      exact WH.nilF rfl (LessW.mk' ⟨AVle.of rfl, trivial⟩ ⟨rfl, trivial⟩)
  · refine QT.n ?_
    refine WC.ret ?_
    cases H
    exact Ends.auto rfl rfl rfl ⟨rfl, trivial⟩
theorem ref14_with_s (n0 : Nat) (hn : nodupB [n0] = true) (a0 : List T_api_Frame) (a1 : T_api_Frame) {r : List T_api_Frame} (H : ref14_with a0 a1 = some r) : LJ.Spec Try.prog 49 [.d (slT enc_api_Frame a0), .d (.agg [.int .i64 a1.Fn, .int .i64 a1.Pc, .int .i64 a1.N, .int .i64 (a1.L.getD 0 default), .int .i64 (a1.L.getD 1 default), .int .i64 (a1.L.getD 2 default), .int .i64 (a1.L.getD 3 default), .int .i64 (a1.L.getD 4 default), .int .i64 (a1.L.getD 5 default), .int .i64 (a1.L.getD 6 default), .int .i64 (a1.L.getD 7 default), .int .i64 (a1.S.getD 0 default), .int .i64 (a1.S.getD 1 default), .int .i64 (a1.S.getD 2 default), .int .i64 (a1.S.getD 3 default), .int .i64 (a1.S.getD 4 default), .int .i64 (a1.S.getD 5 default), .int .i64 (a1.S.getD 6 default), .int .i64 (a1.S.getD 7 default), .int .i64 (a1.S.getD 8 default), .int .i64 (a1.S.getD 9 default), .int .i64 (a1.S.getD 10 default), .int .i64 (a1.S.getD 11 default), .int .i64 (a1.S.getD 12 default), .int .i64 (a1.S.getD 13 default), .int .i64 (a1.S.getD 14 default), .int .i64 (a1.S.getD 15 default)])] [] (.own n0) [(n0, .row 45 27 (r.map enc_api_Frame))] :=
  Spec.names [n0] hn rfl rfl (ref14_with_0 a0 a1 H)
theorem ref14_with_f : hasFunc Try.prog 49 Try.f49 := ⟨Try.func49, rfl, by kernel_rfl⟩

/-! ### logjam/logjamref14.Go -/
theorem ref14_Go_0 (a0 : List T_api_Frame) (a1 : Int) {r : List T_api_Frame} (H : ref14_Go a0 a1 = some r) : LJ.Spec Try.prog 27 [.d (slT enc_api_Frame a0), .d (.int .i64 a1)] [] (.d (slT enc_api_Frame r)) [] := by
  refine LJ.Spec.code Try.func27 rfl 21 rfl rfl [] rfl fun w0 F0 S0 B0 => ?_
  unfold ref14_Go at H
  refine WC.seq ?_
  refine WC.region ?_
  refine WL.run 1 tt_ok sg0 rfl rfl trivial ?_
  refine WL.nil ?_
  refine QT.n ?_
  refine WC.seq ?_
  refine WC.seq ?_
  refine WC.region ?_
  refine WL.run 3 tt_ok sg0 rfl rfl trivial ?_
  refine WL.nil ?_
  refine QT.n ?_
  refine WC.cond rfl (fun h1 => ?_) (fun h1 => ?_)
  · replace H := of_t H h1
    refine WC.seq ?_
    refine WC.region ?_
    refine WL.run 2 tt_ok sg0 rfl rfl trivial ?_
    refine WL.nil ?_
    refine QT.n ?_
    refine WC.ret ?_
    refine QT.r ?_
    cases H
    exact Ends.auto rfl rfl rfl trivial
  replace H := of_f H h1
  refine WC.skip ?_
  refine QT.n ?_
  refine WC.seq ?_
  refine WC.region ?_
  obtain ⟨g2, H⟩ := of_need H
  refine WL.run 6 tt_ok sg0 rfl rfl ⟨⟨(nIn_ok g2).1, (nIn_ok g2).2, rfl⟩, trivial⟩ ?_
  refine WL.alloc 105 tt_ok rfl rfl rfl ?_
  refine WL.eff 0 tt_ok et_ok eg0 rfl rfl rfl trivial ?_
  refine WL.nil ?_
  refine QT.n ?_
  refine WC.seq ?_
  refine WC.region ?_
  refine WL.run 2 tt_ok sg0 rfl rfl trivial ?_
  refine WL.eff 0 tt_ok et_ok eg0 rfl rfl rfl trivial ?_
  refine WL.nil ?_
  refine QT.n ?_
  refine WC.seq ?_
  refine WC.region ?_
  refine WL.run 2 tt_ok sg0 rfl rfl trivial ?_
  obtain ⟨x3, hx3, H⟩ := of_bind H
  refine WL.call [2200] (ref14_with_s 2200 rfl _ _ hx3) ref14_with_f rfl rfl trivial rfl rfl rfl ?_
  refine WL.run 1 tt_ok sg0 rfl rfl trivial ?_
  refine WL.nil ?_
  refine QT.n ?_
  refine WC.freezeT 2200 enc_api_Frame x3 rfl rfl rfl rfl ?_
  refine WC.ret ?_
  cases H
  exact Ends.auto rfl rfl rfl trivial
theorem ref14_Go_f : hasFunc Try.prog 27 Try.f27 := ⟨Try.func27, rfl, by kernel_rfl⟩

/-! ### logjam/logjamref14.Pop -/
theorem ref14_Pop_0 (a0 : List T_api_Frame) (a1 : Int) {r : (List T_api_Frame) × (List Int) × Bool} (H : ref14_Pop a0 a1 = some r) : LJ.Spec Try.prog 30 [.d (slT enc_api_Frame a0), .d (.int .i64 a1)] [] (.tup [.own 0, .d (slT enc_i64 r.2.1), .d (.bool r.2.2)]) [(0, .row 45 27 (r.1.map enc_api_Frame))] := by
  refine LJ.Spec.code Try.func30 rfl 74 rfl rfl [] rfl fun w0 F0 S0 B0 => ?_
  unfold ref14_Pop at H
  refine WC.seq ?_
  refine WC.region ?_
  refine WL.run 3 tt_ok sg0 rfl rfl trivial ?_
  refine WL.nil ?_
  refine QT.n ?_
  refine WC.seq ?_
  refine WC.seq ?_
  refine WC.region ?_
  refine WL.run 4 tt_ok sg0 rfl rfl trivial ?_
  refine WL.sect 2 3 false tt_ok sg0 rfl rfl (fun _ => trivial) ?_
  refine WL.run 2 tt_ok sg0 rfl rfl ⟨by first | exact id | exact fun h => by rw [h]; rfl | simp_all, trivial⟩ ?_
  obtain ⟨g1, H⟩ := of_needS H
  refine WL.sect 9 7 false tt_ok sg0 rfl rfl (fun hb => ⟨⟨(nIn_ok (g1 hb)).1, (nIn_ok (g1 hb)).2, rfl⟩, trivial⟩) ?_
  refine WL.run 2 tt_ok sg0 rfl rfl ⟨by first | exact id | exact fun h => by rw [h]; rfl | simp_all, trivial⟩ ?_
  obtain ⟨g2, H⟩ := of_needS H
  refine WL.sect 8 18 false tt_ok sg0 rfl rfl (fun hb => ⟨⟨(nIn_ok (g2 hb)).1, (nIn_ok (g2 hb)).2, rfl⟩, trivial⟩) ?_
  refine WL.run 1 tt_ok sg0 rfl rfl ⟨by first | exact id | exact fun h => by rw [h]; rfl | simp_all, trivial⟩ ?_
  refine WL.nil ?_
  refine QT.n ?_
  refine WC.cond rfl (fun h3 => ?_) (fun h3 => ?_)
  · replace H := of_t H h3
    refine WC.seq ?_
    refine WC.region ?_
    refine WL.run 3 tt_ok sg0 rfl rfl trivial ?_
    refine WL.nil ?_
    refine QT.n ?_
    refine WC.nilrow (t := 4) 0 45 27 rfl rfl rfl ?_
    refine WC.row 0 (([] : List T_api_Frame).map enc_api_Frame) rfl rfl rfl ?_
    refine WC.nilT 5 enc_i64 rfl ?_
    refine WC.ret ?_
    refine QT.r ?_
    cases H
    exact Ends.auto rfl rfl rfl ⟨rfl, trivial⟩
  replace H := of_f H h3
  refine WC.skip ?_
  refine QT.n ?_
  refine WC.seq ?_
  refine WC.region ?_
  obtain ⟨g4, H⟩ := of_need H
  refine WL.run 6 tt_ok sg0 rfl rfl ⟨⟨(nIn_ok g4).1, (nIn_ok g4).2, rfl⟩, trivial⟩ ?_
  refine WL.eff 144 tt_ok et_ok eg0 rfl rfl rfl trivial ?_
  refine WL.alloc 107 tt_ok rfl rfl rfl ?_
  refine WL.eff 0 tt_ok et_ok eg0 rfl rfl rfl trivial ?_
  refine WL.run 1 tt_ok sg0 rfl rfl trivial ?_
  refine WL.nil ?_
  refine QT.n ?_
  refine WC.seq ?_
  refine WC.seq ?_
  refine WC.region ?_
  refine WL.run 5 tt_ok sg0 rfl rfl trivial ?_
  refine WL.nil ?_
  refine QT.n ?_
  refine WC.block ?_
  refine WC.loop (ι := {x : Nat × (Int × (List Int) × (List Int)) // ref14_Pop_l6 a0 a1 x.1 x.2 = some r}) (fun x => [(0, .d (slT enc_api_Frame a0)), (1, .d (.int .i64 a1)), (7, .ptr 107 0), (8, .own 144), (9, .d (.int .i64 x.1.2.1))]) (fun x => [(107, .box 45 [.d (.int .i64 ((a0.getD (IntKind.i64.wrap ((a0.length : Int) - 1)).toNat default).Fn)), .d (.int .i64 ((a0.getD (IntKind.i64.wrap ((a0.length : Int) - 1)).toNat default).Pc)), .d (.int .i64 ((a0.getD (IntKind.i64.wrap ((a0.length : Int) - 1)).toNat default).N)), .d (.int .i64 (((a0.getD (IntKind.i64.wrap ((a0.length : Int) - 1)).toNat default).L).getD 0 default)), .d (.int .i64 (((a0.getD (IntKind.i64.wrap ((a0.length : Int) - 1)).toNat default).L).getD 1 default)), .d (.int .i64 (((a0.getD (IntKind.i64.wrap ((a0.length : Int) - 1)).toNat default).L).getD 2 default)), .d (.int .i64 (((a0.getD (IntKind.i64.wrap ((a0.length : Int) - 1)).toNat default).L).getD 3 default)), .d (.int .i64 (((a0.getD (IntKind.i64.wrap ((a0.length : Int) - 1)).toNat default).L).getD 4 default)), .d (.int .i64 (((a0.getD (IntKind.i64.wrap ((a0.length : Int) - 1)).toNat default).L).getD 5 default)), .d (.int .i64 (((a0.getD (IntKind.i64.wrap ((a0.length : Int) - 1)).toNat default).L).getD 6 default)), .d (.int .i64 (((a0.getD (IntKind.i64.wrap ((a0.length : Int) - 1)).toNat default).L).getD 7 default)), .d (.int .i64 (x.1.2.2.1.getD 0 default)), .d (.int .i64 (x.1.2.2.1.getD 1 default)), .d (.int .i64 (x.1.2.2.1.getD 2 default)), .d (.int .i64 (x.1.2.2.1.getD 3 default)), .d (.int .i64 (x.1.2.2.1.getD 4 default)), .d (.int .i64 (x.1.2.2.1.getD 5 default)), .d (.int .i64 (x.1.2.2.1.getD 6 default)), .d (.int .i64 (x.1.2.2.1.getD 7 default)), .d (.int .i64 (x.1.2.2.1.getD 8 default)), .d (.int .i64 (x.1.2.2.1.getD 9 default)), .d (.int .i64 (x.1.2.2.1.getD 10 default)), .d (.int .i64 (x.1.2.2.1.getD 11 default)), .d (.int .i64 (x.1.2.2.1.getD 12 default)), .d (.int .i64 (x.1.2.2.1.getD 13 default)), .d (.int .i64 (x.1.2.2.1.getD 14 default)), .d (.int .i64 (x.1.2.2.1.getD 15 default))]), (144, .row 3 1 (x.1.2.2.2.map enc_i64))]) (fun x => x.1.1) ⟨(fuel, (IntKind.i64.wrap (((a0.getD (IntKind.i64.wrap ((a0.length : Int) - 1)).toNat default).N) - a1), ((a0.getD (IntKind.i64.wrap ((a0.length : Int) - 1)).toNat default).S), ([] : List Int))), H⟩ (Less.mk' ⟨rfl, rfl, rfl, rfl, rfl, trivial⟩ ⟨rfl, rfl, trivial⟩) fun x => ?_
  obtain ⟨⟨k6, s5⟩, H⟩ := x
  rcases k6 with _ | k6
  · exact of_none H
  rw [ref14_Pop_l6] at H
  refine WC.seq ?_
  refine WC.seq ?_
  refine WC.region ?_
  refine WL.run 4 tt_ok sg0 rfl rfl trivial ?_
  refine WL.nil ?_
  refine QT.n ?_
  refine WC.cond rfl (fun h7 => ?_) (fun h7 => ?_)
  · replace H := of_t H h7
    refine WC.skip ?_
    refine QT.n ?_
    refine WC.seq ?_
    refine WC.block ?_
    refine WC.region ?_
    refine WL.run 4 tt_ok sg0 rfl rfl trivial ?_
    obtain ⟨g8, H⟩ := of_need H
    refine WL.yv (LJ.Y.idxPtrA 16 s5.1 (by kernel_rfl) rfl rfl rfl (nIn_ok g8)) rfl rfl rfl ?_
    refine WL.yv (LJ.Y.loadPtrA 16 11 (fun k => .int .i64 (s5.2.1.getD k default)) s5.1 rfl rfl rfl (by kernel_rfl) rfl (nIn_ok g8)) rfl rfl rfl ?_
    refine WL.eff 161 tt_ok et_ok eg0 rfl rfl rfl trivial ?_
    refine WL.freezeT 161 enc_i64 ([(s5.2.1.getD s5.1.toNat default)] : List Int) rfl rfl rfl rfl ?_
    obtain ⟨g9, H⟩ := of_need H
    refine WL.appT enc_i64 s5.2.2 ([(s5.2.1.getD s5.1.toNat default)] : List Int) tt_ok et_ok rfl rfl (fun _ => rfl) (fun _ => rfl) rfl rfl rfl rfl (nCap_ok g9) rfl rfl rfl rfl rfl ?_
    refine WL.run 2 tt_ok sg0 rfl rfl trivial ?_
    obtain ⟨g10, H⟩ := of_need H
    refine WL.yv (LJ.Y.idxPtrA 16 s5.1 (by kernel_rfl) rfl rfl rfl (nIn_ok g10)) rfl rfl rfl ?_
    refine WL.wo (WO.storePtrA 16 11 (fun x : Int => DV.int .i64 x) s5.2.1 (0 : Int) s5.1 (cs' := [.d (.int .i64 ((a0.getD (IntKind.i64.wrap ((a0.length : Int) - 1)).toNat default).Fn)), .d (.int .i64 ((a0.getD (IntKind.i64.wrap ((a0.length : Int) - 1)).toNat default).Pc)), .d (.int .i64 ((a0.getD (IntKind.i64.wrap ((a0.length : Int) - 1)).toNat default).N)), .d (.int .i64 (((a0.getD (IntKind.i64.wrap ((a0.length : Int) - 1)).toNat default).L).getD 0 default)), .d (.int .i64 (((a0.getD (IntKind.i64.wrap ((a0.length : Int) - 1)).toNat default).L).getD 1 default)), .d (.int .i64 (((a0.getD (IntKind.i64.wrap ((a0.length : Int) - 1)).toNat default).L).getD 2 default)), .d (.int .i64 (((a0.getD (IntKind.i64.wrap ((a0.length : Int) - 1)).toNat default).L).getD 3 default)), .d (.int .i64 (((a0.getD (IntKind.i64.wrap ((a0.length : Int) - 1)).toNat default).L).getD 4 default)), .d (.int .i64 (((a0.getD (IntKind.i64.wrap ((a0.length : Int) - 1)).toNat default).L).getD 5 default)), .d (.int .i64 (((a0.getD (IntKind.i64.wrap ((a0.length : Int) - 1)).toNat default).L).getD 6 default)), .d (.int .i64 (((a0.getD (IntKind.i64.wrap ((a0.length : Int) - 1)).toNat default).L).getD 7 default)), .d (.int .i64 ((aset 16 s5.2.1 s5.1.toNat (0 : Int)).getD 0 default)), .d (.int .i64 ((aset 16 s5.2.1 s5.1.toNat (0 : Int)).getD 1 default)), .d (.int .i64 ((aset 16 s5.2.1 s5.1.toNat (0 : Int)).getD 2 default)), .d (.int .i64 ((aset 16 s5.2.1 s5.1.toNat (0 : Int)).getD 3 default)), .d (.int .i64 ((aset 16 s5.2.1 s5.1.toNat (0 : Int)).getD 4 default)), .d (.int .i64 ((aset 16 s5.2.1 s5.1.toNat (0 : Int)).getD 5 default)), .d (.int .i64 ((aset 16 s5.2.1 s5.1.toNat (0 : Int)).getD 6 default)), .d (.int .i64 ((aset 16 s5.2.1 s5.1.toNat (0 : Int)).getD 7 default)), .d (.int .i64 ((aset 16 s5.2.1 s5.1.toNat (0 : Int)).getD 8 default)), .d (.int .i64 ((aset 16 s5.2.1 s5.1.toNat (0 : Int)).getD 9 default)), .d (.int .i64 ((aset 16 s5.2.1 s5.1.toNat (0 : Int)).getD 10 default)), .d (.int .i64 ((aset 16 s5.2.1 s5.1.toNat (0 : Int)).getD 11 default)), .d (.int .i64 ((aset 16 s5.2.1 s5.1.toNat (0 : Int)).getD 12 default)), .d (.int .i64 ((aset 16 s5.2.1 s5.1.toNat (0 : Int)).getD 13 default)), .d (.int .i64 ((aset 16 s5.2.1 s5.1.toNat (0 : Int)).getD 14 default)), .d (.int .i64 ((aset 16 s5.2.1 s5.1.toNat (0 : Int)).getD 15 default))]) rfl rfl rfl rfl rfl (by kernel_rfl) rfl rfl (nIn_ok g10) rfl rfl rfl) rfl ?_
    refine WL.nil ?_
    refine QB.n (QT.n ?_)
    refine WC.region ?_
    refine WL.run 3 tt_ok sg0 rfl rfl trivial ?_
    refine WL.nil ?_
    refine QT.n ?_
    exact ⟨⟨(k6, (IntKind.i64.wrap (s5.1 + 1), (aset 16 s5.2.1 s5.1.toNat (0 : Int)), s5.2.2 ++ ([(s5.2.1.getD s5.1.toNat default)] : List Int))), H⟩, Nat.lt_succ_self _, Less.mk' ⟨rfl, rfl, rfl, rfl, rfl, trivial⟩ ⟨rfl, rfl, trivial⟩⟩
  replace H := of_f H h7
  refine WC.exit ?_
  refine QT.x (QT.x (QB.hit (QT.n ?_)))
  refine WC.seq ?_
  refine WC.region ?_
  refine WL.run 5 tt_ok sg0 rfl rfl trivial ?_
  refine WL.eff 0 tt_ok et_ok eg0 rfl rfl rfl trivial ?_
  refine WL.nil ?_
  refine QT.n ?_
  refine WC.seq ?_
  refine WC.region ?_
  refine WL.run 2 tt_ok sg0 rfl rfl trivial ?_
  obtain ⟨x11, hx11, H⟩ := of_bind H
  refine WL.call [0] (ref14_with_s 0 rfl _ _ hx11) ref14_with_f rfl rfl trivial rfl rfl rfl ?_
  refine WL.run 4 tt_ok sg0 rfl rfl trivial ?_
  refine WL.nil ?_
  refine QT.n ?_
  refine WC.freezeT 144 enc_i64 s5.2.2 rfl rfl rfl rfl ?_
  refine WC.ret ?_
  cases H
  exact Ends.auto rfl rfl rfl ⟨rfl, trivial⟩
theorem ref14_Pop_s (n0 : Nat) (hn : nodupB [n0] = true) (a0 : List T_api_Frame) (a1 : Int) {r : (List T_api_Frame) × (List Int) × Bool} (H : ref14_Pop a0 a1 = some r) : LJ.Spec Try.prog 30 [.d (slT enc_api_Frame a0), .d (.int .i64 a1)] [] (.tup [.own n0, .d (slT enc_i64 r.2.1), .d (.bool r.2.2)]) [(n0, .row 45 27 (r.1.map enc_api_Frame))] :=
  Spec.names [n0] hn rfl rfl (ref14_Pop_0 a0 a1 H)
theorem ref14_Pop_f : hasFunc Try.prog 30 Try.f30 := ⟨Try.func30, rfl, by kernel_rfl⟩

/-! ### logjam/logjamref14.Call -/
theorem ref14_Call_0 (a0 : List T_api_Frame) (a1 : Int) (a2 : Int) {r : (List T_api_Frame) × Bool} (H : ref14_Call a0 a1 a2 = some r) : LJ.Spec Try.prog 28 [.d (slT enc_api_Frame a0), .d (.int .i64 a1), .d (.int .i64 a2)] [] (.tup [.d (slT enc_api_Frame r.1), .d (.bool r.2)]) [] := by
  refine LJ.Spec.code Try.func28 rfl 34 rfl rfl [] rfl fun w0 F0 S0 B0 => ?_
  unfold ref14_Call at H
  refine WC.seq ?_
  refine WC.region ?_
  refine WL.run 2 tt_ok sg0 rfl rfl trivial ?_
  refine WL.nil ?_
  refine QT.n ?_
  refine WC.seq ?_
  refine WC.region ?_
  refine WL.run 2 tt_ok sg0 rfl rfl trivial ?_
  obtain ⟨x1, hx1, H⟩ := of_bind H
  refine WL.call [2140] (ref14_Pop_s 2140 rfl _ _ hx1) ref14_Pop_f rfl rfl trivial rfl rfl rfl ?_
  refine WL.run 7 tt_ok sg0 rfl rfl trivial ?_
  refine WL.nil ?_
  refine QT.n ?_
  refine WC.seq ?_
  refine WC.seq ?_
  refine WC.region ?_
  refine WL.run 3 tt_ok sg0 rfl rfl trivial ?_
  refine WL.sect 2 2 false tt_ok sg0 rfl rfl (fun _ => trivial) ?_
  refine WL.run 2 tt_ok sg0 rfl rfl ⟨by first | exact id | exact fun h => by rw [h]; rfl | simp_all, trivial⟩ ?_
  refine WL.sect 3 6 false tt_ok sg0 rfl rfl (fun _ => trivial) ?_
  refine WL.run 1 tt_ok sg0 rfl rfl ⟨by first | exact id | exact fun h => by rw [h]; rfl | simp_all, trivial⟩ ?_
  refine WL.nil ?_
  refine QT.n ?_
  refine WC.cond rfl (fun h2 => ?_) (fun h2 => ?_)
  · replace H := of_t H h2
    refine WC.seq ?_
    refine WC.region ?_
    refine WL.run 2 tt_ok sg0 rfl rfl trivial ?_
    refine WL.nil ?_
    refine QT.n ?_
    refine WC.nilT 6 enc_api_Frame rfl ?_
    refine WC.ret ?_
    refine QT.r ?_
    cases H
    exact Ends.auto rfl rfl rfl trivial
  replace H := of_f H h2
  refine WC.skip ?_
  refine QT.n ?_
  refine WC.seq ?_
  refine WC.region ?_
  refine WL.run 3 tt_ok sg0 rfl rfl trivial ?_
  obtain ⟨x3, hx3, H⟩ := of_bind H
  refine WL.call [] (ref14_New_0 _ _ hx3) ref14_New_f rfl rfl trivial rfl rfl rfl ?_
  obtain ⟨g4, H⟩ := of_need H
  refine WL.appT enc_api_Frame x1.1 x3 tt_ok et_ok rfl rfl (fun _ => rfl) (fun _ => rfl) rfl rfl rfl rfl (nCap_ok g4) rfl rfl rfl rfl rfl ?_
  refine WL.run 2 tt_ok sg0 rfl rfl trivial ?_
  refine WL.nil ?_
  refine QT.n ?_
  refine WC.freezeT 2140 enc_api_Frame (x1.1 ++ x3) rfl rfl rfl rfl ?_
  refine WC.ret ?_
  cases H
  exact Ends.auto rfl rfl rfl trivial
theorem ref14_Call_f : hasFunc Try.prog 28 Try.f28 := ⟨Try.func28, rfl, by kernel_rfl⟩

/-! ### logjam/logjamref14.Push -/
theorem ref14_Push_0 (a0 : List T_api_Frame) (a1 : Int) {r : (List T_api_Frame) × Bool} (H : ref14_Push a0 a1 = some r) : LJ.Spec Try.prog 35 [.d (slT enc_api_Frame a0), .d (.int .i64 a1)] [] (.tup [.d (slT enc_api_Frame r.1), .d (.bool r.2)]) [] := by
  refine LJ.Spec.code Try.func35 rfl 49 rfl rfl [] rfl fun w0 F0 S0 B0 => ?_
  unfold ref14_Push at H
  refine WC.seq ?_
  refine WC.region ?_
  refine WL.run 2 tt_ok sg0 rfl rfl trivial ?_
  refine WL.nil ?_
  refine QT.n ?_
  refine WC.seq ?_
  refine WC.seq ?_
  refine WC.region ?_
  refine WL.run 4 tt_ok sg0 rfl rfl trivial ?_
  obtain ⟨g1, H⟩ := of_needS H
  refine WL.sect 8 3 false tt_ok sg0 rfl rfl (fun hb => ⟨⟨(nIn_ok (g1 hb)).1, (nIn_ok (g1 hb)).2, rfl⟩, trivial⟩) ?_
  refine WL.run 2 tt_ok sg0 rfl rfl ⟨by first | exact id | exact fun h => by rw [h]; rfl | simp_all, trivial⟩ ?_
  obtain ⟨g2, H⟩ := of_needS H
  refine WL.sect 8 13 false tt_ok sg0 rfl rfl (fun hb => ⟨⟨(nIn_ok (g2 hb)).1, (nIn_ok (g2 hb)).2, rfl⟩, trivial⟩) ?_
  refine WL.run 1 tt_ok sg0 rfl rfl ⟨by first | exact id | exact fun h => by rw [h]; rfl | simp_all, trivial⟩ ?_
  refine WL.nil ?_
  refine QT.n ?_
  refine WC.cond rfl (fun h3 => ?_) (fun h3 => ?_)
  · replace H := of_t H h3
    refine WC.seq ?_
    refine WC.region ?_
    refine WL.run 2 tt_ok sg0 rfl rfl trivial ?_
    refine WL.nil ?_
    refine QT.n ?_
    refine WC.nilT 4 enc_api_Frame rfl ?_
    refine WC.ret ?_
    refine QT.r ?_
    cases H
    exact Ends.auto rfl rfl rfl trivial
  replace H := of_f H h3
  refine WC.skip ?_
  refine QT.n ?_
  refine WC.seq ?_
  refine WC.region ?_
  obtain ⟨g4, H⟩ := of_need H
  refine WL.run 6 tt_ok sg0 rfl rfl ⟨⟨(nIn_ok g4).1, (nIn_ok g4).2, rfl⟩, trivial⟩ ?_
  refine WL.alloc 106 tt_ok rfl rfl rfl ?_
  refine WL.eff 0 tt_ok et_ok eg0 rfl rfl rfl trivial ?_
  refine WL.nil ?_
  refine QT.n ?_
  refine WC.seq ?_
  obtain ⟨x4_3_1, hx4_3_1, H⟩ := of_bind H
  obtain ⟨g4_8_1, H⟩ := of_need H
  refine WC.heldF [(0, .d (slT enc_api_Frame a0)), (6, .ptr 106 0)] [(106, .box 45 [.d (.int .i64 ((a0.getD (IntKind.i64.wrap ((a0.length : Int) - 1)).toNat default).Fn)), .d (.int .i64 ((a0.getD (IntKind.i64.wrap ((a0.length : Int) - 1)).toNat default).Pc)), .d (.int .i64 (IntKind.i64.wrap (((a0.getD (IntKind.i64.wrap ((a0.length : Int) - 1)).toNat default).N) + 1))), .d (.int .i64 (((a0.getD (IntKind.i64.wrap ((a0.length : Int) - 1)).toNat default).L).getD 0 default)), .d (.int .i64 (((a0.getD (IntKind.i64.wrap ((a0.length : Int) - 1)).toNat default).L).getD 1 default)), .d (.int .i64 (((a0.getD (IntKind.i64.wrap ((a0.length : Int) - 1)).toNat default).L).getD 2 default)), .d (.int .i64 (((a0.getD (IntKind.i64.wrap ((a0.length : Int) - 1)).toNat default).L).getD 3 default)), .d (.int .i64 (((a0.getD (IntKind.i64.wrap ((a0.length : Int) - 1)).toNat default).L).getD 4 default)), .d (.int .i64 (((a0.getD (IntKind.i64.wrap ((a0.length : Int) - 1)).toNat default).L).getD 5 default)), .d (.int .i64 (((a0.getD (IntKind.i64.wrap ((a0.length : Int) - 1)).toNat default).L).getD 6 default)), .d (.int .i64 (((a0.getD (IntKind.i64.wrap ((a0.length : Int) - 1)).toNat default).L).getD 7 default)), .d (.int .i64 ((aset 16 ((a0.getD (IntKind.i64.wrap ((a0.length : Int) - 1)).toNat default).S) ((a0.getD (IntKind.i64.wrap ((a0.length : Int) - 1)).toNat default).N).toNat x4_3_1).getD 0 default)), .d (.int .i64 ((aset 16 ((a0.getD (IntKind.i64.wrap ((a0.length : Int) - 1)).toNat default).S) ((a0.getD (IntKind.i64.wrap ((a0.length : Int) - 1)).toNat default).N).toNat x4_3_1).getD 1 default)), .d (.int .i64 ((aset 16 ((a0.getD (IntKind.i64.wrap ((a0.length : Int) - 1)).toNat default).S) ((a0.getD (IntKind.i64.wrap ((a0.length : Int) - 1)).toNat default).N).toNat x4_3_1).getD 2 default)), .d (.int .i64 ((aset 16 ((a0.getD (IntKind.i64.wrap ((a0.length : Int) - 1)).toNat default).S) ((a0.getD (IntKind.i64.wrap ((a0.length : Int) - 1)).toNat default).N).toNat x4_3_1).getD 3 default)), .d (.int .i64 ((aset 16 ((a0.getD (IntKind.i64.wrap ((a0.length : Int) - 1)).toNat default).S) ((a0.getD (IntKind.i64.wrap ((a0.length : Int) - 1)).toNat default).N).toNat x4_3_1).getD 4 default)), .d (.int .i64 ((aset 16 ((a0.getD (IntKind.i64.wrap ((a0.length : Int) - 1)).toNat default).S) ((a0.getD (IntKind.i64.wrap ((a0.length : Int) - 1)).toNat default).N).toNat x4_3_1).getD 5 default)), .d (.int .i64 ((aset 16 ((a0.getD (IntKind.i64.wrap ((a0.length : Int) - 1)).toNat default).S) ((a0.getD (IntKind.i64.wrap ((a0.length : Int) - 1)).toNat default).N).toNat x4_3_1).getD 6 default)), .d (.int .i64 ((aset 16 ((a0.getD (IntKind.i64.wrap ((a0.length : Int) - 1)).toNat default).S) ((a0.getD (IntKind.i64.wrap ((a0.length : Int) - 1)).toNat default).N).toNat x4_3_1).getD 7 default)), .d (.int .i64 ((aset 16 ((a0.getD (IntKind.i64.wrap ((a0.length : Int) - 1)).toNat default).S) ((a0.getD (IntKind.i64.wrap ((a0.length : Int) - 1)).toNat default).N).toNat x4_3_1).getD 8 default)), .d (.int .i64 ((aset 16 ((a0.getD (IntKind.i64.wrap ((a0.length : Int) - 1)).toNat default).S) ((a0.getD (IntKind.i64.wrap ((a0.length : Int) - 1)).toNat default).N).toNat x4_3_1).getD 9 default)), .d (.int .i64 ((aset 16 ((a0.getD (IntKind.i64.wrap ((a0.length : Int) - 1)).toNat default).S) ((a0.getD (IntKind.i64.wrap ((a0.length : Int) - 1)).toNat default).N).toNat x4_3_1).getD 10 default)), .d (.int .i64 ((aset 16 ((a0.getD (IntKind.i64.wrap ((a0.length : Int) - 1)).toNat default).S) ((a0.getD (IntKind.i64.wrap ((a0.length : Int) - 1)).toNat default).N).toNat x4_3_1).getD 11 default)), .d (.int .i64 ((aset 16 ((a0.getD (IntKind.i64.wrap ((a0.length : Int) - 1)).toNat default).S) ((a0.getD (IntKind.i64.wrap ((a0.length : Int) - 1)).toNat default).N).toNat x4_3_1).getD 12 default)), .d (.int .i64 ((aset 16 ((a0.getD (IntKind.i64.wrap ((a0.length : Int) - 1)).toNat default).S) ((a0.getD (IntKind.i64.wrap ((a0.length : Int) - 1)).toNat default).N).toNat x4_3_1).getD 13 default)), .d (.int .i64 ((aset 16 ((a0.getD (IntKind.i64.wrap ((a0.length : Int) - 1)).toNat default).S) ((a0.getD (IntKind.i64.wrap ((a0.length : Int) - 1)).toNat default).N).toNat x4_3_1).getD 14 default)), .d (.int .i64 ((aset 16 ((a0.getD (IntKind.i64.wrap ((a0.length : Int) - 1)).toNat default).S) ((a0.getD (IntKind.i64.wrap ((a0.length : Int) - 1)).toNat default).N).toNat x4_3_1).getD 15 default))])] (.one 0 true (.one 2 true (.one 4 true (.one 7 true (.fork (.one 1 false (.fork (.one 3 false (.one 5 false (.one 6 true (.one 8 true (.one 9 false (.one 10 true (.one 11 false .done))))))) (.one 5 false (.one 6 true (.one 3 false (.one 8 true (.one 9 false (.one 10 true (.one 11 false .done))))))))) (.fork (.one 3 false (.fork (.one 1 false (.one 5 false (.one 6 true (.one 8 true (.one 9 false (.one 10 true (.one 11 false .done))))))) (.one 5 false (.one 6 true (.one 1 false (.one 8 true (.one 9 false (.one 10 true (.one 11 false .done))))))))) (.one 5 false (.one 6 true (.fork (.one 1 false (.one 3 false (.one 8 true (.one 9 false (.one 10 true (.one 11 false .done)))))) (.one 3 false (.one 1 false (.one 8 true (.one 9 false (.one 10 true (.one 11 false .done))))))))))))))) [106] [] rfl (by kernel_rfl) rfl (by kernel_rfl) rfl rfl (fun _ h => h) rfl rfl rfl (fun FK NK wK K => ?_) ?_
  · refine WH.run 4 tt_ok rfl rfl rfl rfl trivial ?_
    refine WH.fork ?_ (WH.fork ?_ ?_)
    · refine WH.val tt_ok rfl rfl rfl rfl rfl trivial rfl rfl ?_
      refine WH.fork ?_ ?_
      · refine WH.call [] rfl (ref03_Low_0 _ hx4_3_1) ref03_Low_f rfl rfl trivial rfl rfl rfl rfl rfl ?_
        refine WH.val tt_ok rfl rfl rfl rfl rfl trivial rfl rfl ?_
        refine WH.run 1 tt_ok rfl rfl rfl rfl trivial ?_
        refine WH.yv rfl (LJ.Y.idxPtrA 16 ((a0.getD (IntKind.i64.wrap ((a0.length : Int) - 1)).toNat default).N) (by kernel_rfl) rfl rfl rfl (nIn_ok g4_8_1)) rfl rfl rfl ?_
        refine WH.step rfl (WO.storePtrA 16 11 (fun x : Int => DV.int .i64 x) ((a0.getD (IntKind.i64.wrap ((a0.length : Int) - 1)).toNat default).S) x4_3_1 ((a0.getD (IntKind.i64.wrap ((a0.length : Int) - 1)).toNat default).N) (cs' := [.d (.int .i64 ((a0.getD (IntKind.i64.wrap ((a0.length : Int) - 1)).toNat default).Fn)), .d (.int .i64 ((a0.getD (IntKind.i64.wrap ((a0.length : Int) - 1)).toNat default).Pc)), .d (.int .i64 ((a0.getD (IntKind.i64.wrap ((a0.length : Int) - 1)).toNat default).N)), .d (.int .i64 (((a0.getD (IntKind.i64.wrap ((a0.length : Int) - 1)).toNat default).L).getD 0 default)), .d (.int .i64 (((a0.getD (IntKind.i64.wrap ((a0.length : Int) - 1)).toNat default).L).getD 1 default)), .d (.int .i64 (((a0.getD (IntKind.i64.wrap ((a0.length : Int) - 1)).toNat default).L).getD 2 default)), .d (.int .i64 (((a0.getD (IntKind.i64.wrap ((a0.length : Int) - 1)).toNat default).L).getD 3 default)), .d (.int .i64 (((a0.getD (IntKind.i64.wrap ((a0.length : Int) - 1)).toNat default).L).getD 4 default)), .d (.int .i64 (((a0.getD (IntKind.i64.wrap ((a0.length : Int) - 1)).toNat default).L).getD 5 default)), .d (.int .i64 (((a0.getD (IntKind.i64.wrap ((a0.length : Int) - 1)).toNat default).L).getD 6 default)), .d (.int .i64 (((a0.getD (IntKind.i64.wrap ((a0.length : Int) - 1)).toNat default).L).getD 7 default)), .d (.int .i64 ((aset 16 ((a0.getD (IntKind.i64.wrap ((a0.length : Int) - 1)).toNat default).S) ((a0.getD (IntKind.i64.wrap ((a0.length : Int) - 1)).toNat default).N).toNat x4_3_1).getD 0 default)), .d (.int .i64 ((aset 16 ((a0.getD (IntKind.i64.wrap ((a0.length : Int) - 1)).toNat default).S) ((a0.getD (IntKind.i64.wrap ((a0.length : Int) - 1)).toNat default).N).toNat x4_3_1).getD 1 default)), .d (.int .i64 ((aset 16 ((a0.getD (IntKind.i64.wrap ((a0.length : Int) - 1)).toNat default).S) ((a0.getD (IntKind.i64.wrap ((a0.length : Int) - 1)).toNat default).N).toNat x4_3_1).getD 2 default)), .d (.int .i64 ((aset 16 ((a0.getD (IntKind.i64.wrap ((a0.length : Int) - 1)).toNat default).S) ((a0.getD (IntKind.i64.wrap ((a0.length : Int) - 1)).toNat default).N).toNat x4_3_1).getD 3 default)), .d (.int .i64 ((aset 16 ((a0.getD (IntKind.i64.wrap ((a0.length : Int) - 1)).toNat default).S) ((a0.getD (IntKind.i64.wrap ((a0.length : Int) - 1)).toNat default).N).toNat x4_3_1).getD 4 default)), .d (.int .i64 ((aset 16 ((a0.getD (IntKind.i64.wrap ((a0.length : Int) - 1)).toNat default).S) ((a0.getD (IntKind.i64.wrap ((a0.length : Int) - 1)).toNat default).N).toNat x4_3_1).getD 5 default)), .d (.int .i64 ((aset 16 ((a0.getD (IntKind.i64.wrap ((a0.length : Int) - 1)).toNat default).S) ((a0.getD (IntKind.i64.wrap ((a0.length : Int) - 1)).toNat default).N).toNat x4_3_1).getD 6 default)), .d (.int .i64 ((aset 16 ((a0.getD (IntKind.i64.wrap ((a0.length : Int) - 1)).toNat default).S) ((a0.getD (IntKind.i64.wrap ((a0.length : Int) - 1)).toNat default).N).toNat x4_3_1).getD 7 default)), .d (.int .i64 ((aset 16 ((a0.getD (IntKind.i64.wrap ((a0.length : Int) - 1)).toNat default).S) ((a0.getD (IntKind.i64.wrap ((a0.length : Int) - 1)).toNat default).N).toNat x4_3_1).getD 8 default)), .d (.int .i64 ((aset 16 ((a0.getD (IntKind.i64.wrap ((a0.length : Int) - 1)).toNat default).S) ((a0.getD (IntKind.i64.wrap ((a0.length : Int) - 1)).toNat default).N).toNat x4_3_1).getD 9 default)), .d (.int .i64 ((aset 16 ((a0.getD (IntKind.i64.wrap ((a0.length : Int) - 1)).toNat default).S) ((a0.getD (IntKind.i64.wrap ((a0.length : Int) - 1)).toNat default).N).toNat x4_3_1).getD 10 default)), .d (.int .i64 ((aset 16 ((a0.getD (IntKind.i64.wrap ((a0.length : Int) - 1)).toNat default).S) ((a0.getD (IntKind.i64.wrap ((a0.length : Int) - 1)).toNat default).N).toNat x4_3_1).getD 11 default)), .d (.int .i64 ((aset 16 ((a0.getD (IntKind.i64.wrap ((a0.length : Int) - 1)).toNat default).S) ((a0.getD (IntKind.i64.wrap ((a0.length : Int) - 1)).toNat default).N).toNat x4_3_1).getD 12 default)), .d (.int .i64 ((aset 16 ((a0.getD (IntKind.i64.wrap ((a0.length : Int) - 1)).toNat default).S) ((a0.getD (IntKind.i64.wrap ((a0.length : Int) - 1)).toNat default).N).toNat x4_3_1).getD 13 default)), .d (.int .i64 ((aset 16 ((a0.getD (IntKind.i64.wrap ((a0.length : Int) - 1)).toNat default).S) ((a0.getD (IntKind.i64.wrap ((a0.length : Int) - 1)).toNat default).N).toNat x4_3_1).getD 14 default)), .d (.int .i64 ((aset 16 ((a0.getD (IntKind.i64.wrap ((a0.length : Int) - 1)).toNat default).S) ((a0.getD (IntKind.i64.wrap ((a0.length : Int) - 1)).toNat default).N).toNat x4_3_1).getD 15 default))]) rfl rfl rfl rfl rfl (by kernel_rfl) rfl rfl (nIn_ok g4_8_1) rfl rfl rfl) rfl rfl rfl ?_
        refine WH.run 1 tt_ok rfl rfl rfl rfl trivial ?_
        refine WH.eff 0 tt_ok et_ok rfl rfl rfl rfl trivial rfl rfl ?_
        exact WH.nilF rfl (LessW.mk' ⟨AVle.of rfl, AVle.of rfl, trivial⟩ ⟨rfl, trivial⟩)
      · refine WH.val tt_ok rfl rfl rfl rfl rfl trivial rfl rfl ?_
        refine WH.run 1 tt_ok rfl rfl rfl rfl trivial ?_
        refine WH.call [] rfl (ref03_Low_0 _ hx4_3_1) ref03_Low_f rfl rfl trivial rfl rfl rfl rfl rfl ?_
        refine WH.yv rfl (LJ.Y.idxPtrA 16 ((a0.getD (IntKind.i64.wrap ((a0.length : Int) - 1)).toNat default).N) (by kernel_rfl) rfl rfl rfl (nIn_ok g4_8_1)) rfl rfl rfl ?_
        refine WH.step rfl (WO.storePtrA 16 11 (fun x : Int => DV.int .i64 x) ((a0.getD (IntKind.i64.wrap ((a0.length : Int) - 1)).toNat default).S) x4_3_1 ((a0.getD (IntKind.i64.wrap ((a0.length : Int) - 1)).toNat default).N) (cs' := [.d (.int .i64 ((a0.getD (IntKind.i64.wrap ((a0.length : Int) - 1)).toNat default).Fn)), .d (.int .i64 ((a0.getD (IntKind.i64.wrap ((a0.length : Int) - 1)).toNat default).Pc)), .d (.int .i64 ((a0.getD (IntKind.i64.wrap ((a0.length : Int) - 1)).toNat default).N)), .d (.int .i64 (((a0.getD (IntKind.i64.wrap ((a0.length : Int) - 1)).toNat default).L).getD 0 default)), .d (.int .i64 (((a0.getD (IntKind.i64.wrap ((a0.length : Int) - 1)).toNat default).L).getD 1 default)), .d (.int .i64 (((a0.getD (IntKind.i64.wrap ((a0.length : Int) - 1)).toNat default).L).getD 2 default)), .d (.int .i64 (((a0.getD (IntKind.i64.wrap ((a0.length : Int) - 1)).toNat default).L).getD 3 default)), .d (.int .i64 (((a0.getD (IntKind.i64.wrap ((a0.length : Int) - 1)).toNat default).L).getD 4 default)), .d (.int .i64 (((a0.getD (IntKind.i64.wrap ((a0.length : Int) - 1)).toNat default).L).getD 5 default)), .d (.int .i64 (((a0.getD (IntKind.i64.wrap ((a0.length : Int) - 1)).toNat default).L).getD 6 default)), .d (.int .i64 (((a0.getD (IntKind.i64.wrap ((a0.length : Int) - 1)).toNat default).L).getD 7 default)), .d (.int .i64 ((aset 16 ((a0.getD (IntKind.i64.wrap ((a0.length : Int) - 1)).toNat default).S) ((a0.getD (IntKind.i64.wrap ((a0.length : Int) - 1)).toNat default).N).toNat x4_3_1).getD 0 default)), .d (.int .i64 ((aset 16 ((a0.getD (IntKind.i64.wrap ((a0.length : Int) - 1)).toNat default).S) ((a0.getD (IntKind.i64.wrap ((a0.length : Int) - 1)).toNat default).N).toNat x4_3_1).getD 1 default)), .d (.int .i64 ((aset 16 ((a0.getD (IntKind.i64.wrap ((a0.length : Int) - 1)).toNat default).S) ((a0.getD (IntKind.i64.wrap ((a0.length : Int) - 1)).toNat default).N).toNat x4_3_1).getD 2 default)), .d (.int .i64 ((aset 16 ((a0.getD (IntKind.i64.wrap ((a0.length : Int) - 1)).toNat default).S) ((a0.getD (IntKind.i64.wrap ((a0.length : Int) - 1)).toNat default).N).toNat x4_3_1).getD 3 default)), .d (.int .i64 ((aset 16 ((a0.getD (IntKind.i64.wrap ((a0.length : Int) - 1)).toNat default).S) ((a0.getD (IntKind.i64.wrap ((a0.length : Int) - 1)).toNat default).N).toNat x4_3_1).getD 4 default)), .d (.int .i64 ((aset 16 ((a0.getD (IntKind.i64.wrap ((a0.length : Int) - 1)).toNat default).S) ((a0.getD (IntKind.i64.wrap ((a0.length : Int) - 1)).toNat default).N).toNat x4_3_1).getD 5 default)), .d (.int .i64 ((aset 16 ((a0.getD (IntKind.i64.wrap ((a0.length : Int) - 1)).toNat default).S) ((a0.getD (IntKind.i64.wrap ((a0.length : Int) - 1)).toNat default).N).toNat x4_3_1).getD 6 default)), .d (.int .i64 ((aset 16 ((a0.getD (IntKind.i64.wrap ((a0.length : Int) - 1)).toNat default).S) ((a0.getD (IntKind.i64.wrap ((a0.length : Int) - 1)).toNat default).N).toNat x4_3_1).getD 7 default)), .d (.int .i64 ((aset 16 ((a0.getD (IntKind.i64.wrap ((a0.length : Int) - 1)).toNat default).S) ((a0.getD (IntKind.i64.wrap ((a0.length : Int) - 1)).toNat default).N).toNat x4_3_1).getD 8 default)), .d (.int .i64 ((aset 16 ((a0.getD (IntKind.i64.wrap ((a0.length : Int) - 1)).toNat default).S) ((a0.getD (IntKind.i64.wrap ((a0.length : Int) - 1)).toNat default).N).toNat x4_3_1).getD 9 default)), .d (.int .i64 ((aset 16 ((a0.getD (IntKind.i64.wrap ((a0.length : Int) - 1)).toNat default).S) ((a0.getD (IntKind.i64.wrap ((a0.length : Int) - 1)).toNat default).N).toNat x4_3_1).getD 10 default)), .d (.int .i64 ((aset 16 ((a0.getD (IntKind.i64.wrap ((a0.length : Int) - 1)).toNat default).S) ((a0.getD (IntKind.i64.wrap ((a0.length : Int) - 1)).toNat default).N).toNat x4_3_1).getD 11 default)), .d (.int .i64 ((aset 16 ((a0.getD (IntKind.i64.wrap ((a0.length : Int) - 1)).toNat default).S) ((a0.getD (IntKind.i64.wrap ((a0.length : Int) - 1)).toNat default).N).toNat x4_3_1).getD 12 default)), .d (.int .i64 ((aset 16 ((a0.getD (IntKind.i64.wrap ((a0.length : Int) - 1)).toNat default).S) ((a0.getD (IntKind.i64.wrap ((a0.length : Int) - 1)).toNat default).N).toNat x4_3_1).getD 13 default)), .d (.int .i64 ((aset 16 ((a0.getD (IntKind.i64.wrap ((a0.length : Int) - 1)).toNat default).S) ((a0.getD (IntKind.i64.wrap ((a0.length : Int) - 1)).toNat default).N).toNat x4_3_1).getD 14 default)), .d (.int .i64 ((aset 16 ((a0.getD (IntKind.i64.wrap ((a0.length : Int) - 1)).toNat default).S) ((a0.getD (IntKind.i64.wrap ((a0.length : Int) - 1)).toNat default).N).toNat x4_3_1).getD 15 default))]) rfl rfl rfl rfl rfl (by kernel_rfl) rfl rfl (nIn_ok g4_8_1) rfl rfl rfl) rfl rfl rfl ?_
        refine WH.run 1 tt_ok rfl rfl rfl rfl trivial ?_
        refine WH.eff 0 tt_ok et_ok rfl rfl rfl rfl trivial rfl rfl ?_
        exact WH.nilF rfl (LessW.mk' ⟨AVle.of rfl, AVle.of rfl, trivial⟩ ⟨rfl, trivial⟩)
    · refine WH.call [] rfl (ref03_Low_0 _ hx4_3_1) ref03_Low_f rfl rfl trivial rfl rfl rfl rfl rfl ?_
      refine WH.fork ?_ ?_
      · refine WH.val tt_ok rfl rfl rfl rfl rfl trivial rfl rfl ?_
        refine WH.val tt_ok rfl rfl rfl rfl rfl trivial rfl rfl ?_
        refine WH.run 1 tt_ok rfl rfl rfl rfl trivial ?_
        refine WH.yv rfl (LJ.Y.idxPtrA 16 ((a0.getD (IntKind.i64.wrap ((a0.length : Int) - 1)).toNat default).N) (by kernel_rfl) rfl rfl rfl (nIn_ok g4_8_1)) rfl rfl rfl ?_
        refine WH.step rfl (WO.storePtrA 16 11 (fun x : Int => DV.int .i64 x) ((a0.getD (IntKind.i64.wrap ((a0.length : Int) - 1)).toNat default).S) x4_3_1 ((a0.getD (IntKind.i64.wrap ((a0.length : Int) - 1)).toNat default).N) (cs' := [.d (.int .i64 ((a0.getD (IntKind.i64.wrap ((a0.length : Int) - 1)).toNat default).Fn)), .d (.int .i64 ((a0.getD (IntKind.i64.wrap ((a0.length : Int) - 1)).toNat default).Pc)), .d (.int .i64 ((a0.getD (IntKind.i64.wrap ((a0.length : Int) - 1)).toNat default).N)), .d (.int .i64 (((a0.getD (IntKind.i64.wrap ((a0.length : Int) - 1)).toNat default).L).getD 0 default)), .d (.int .i64 (((a0.getD (IntKind.i64.wrap ((a0.length : Int) - 1)).toNat default).L).getD 1 default)), .d (.int .i64 (((a0.getD (IntKind.i64.wrap ((a0.length : Int) - 1)).toNat default).L).getD 2 default)), .d (.int .i64 (((a0.getD (IntKind.i64.wrap ((a0.length : Int) - 1)).toNat default).L).getD 3 default)), .d (.int .i64 (((a0.getD (IntKind.i64.wrap ((a0.length : Int) - 1)).toNat default).L).getD 4 default)), .d (.int .i64 (((a0.getD (IntKind.i64.wrap ((a0.length : Int) - 1)).toNat default).L).getD 5 default)), .d (.int .i64 (((a0.getD (IntKind.i64.wrap ((a0.length : Int) - 1)).toNat default).L).getD 6 default)), .d (.int .i64 (((a0.getD (IntKind.i64.wrap ((a0.length : Int) - 1)).toNat default).L).getD 7 default)), .d (.int .i64 ((aset 16 ((a0.getD (IntKind.i64.wrap ((a0.length : Int) - 1)).toNat default).S) ((a0.getD (IntKind.i64.wrap ((a0.length : Int) - 1)).toNat default).N).toNat x4_3_1).getD 0 default)), .d (.int .i64 ((aset 16 ((a0.getD (IntKind.i64.wrap ((a0.length : Int) - 1)).toNat default).S) ((a0.getD (IntKind.i64.wrap ((a0.length : Int) - 1)).toNat default).N).toNat x4_3_1).getD 1 default)), .d (.int .i64 ((aset 16 ((a0.getD (IntKind.i64.wrap ((a0.length : Int) - 1)).toNat default).S) ((a0.getD (IntKind.i64.wrap ((a0.length : Int) - 1)).toNat default).N).toNat x4_3_1).getD 2 default)), .d (.int .i64 ((aset 16 ((a0.getD (IntKind.i64.wrap ((a0.length : Int) - 1)).toNat default).S) ((a0.getD (IntKind.i64.wrap ((a0.length : Int) - 1)).toNat default).N).toNat x4_3_1).getD 3 default)), .d (.int .i64 ((aset 16 ((a0.getD (IntKind.i64.wrap ((a0.length : Int) - 1)).toNat default).S) ((a0.getD (IntKind.i64.wrap ((a0.length : Int) - 1)).toNat default).N).toNat x4_3_1).getD 4 default)), .d (.int .i64 ((aset 16 ((a0.getD (IntKind.i64.wrap ((a0.length : Int) - 1)).toNat default).S) ((a0.getD (IntKind.i64.wrap ((a0.length : Int) - 1)).toNat default).N).toNat x4_3_1).getD 5 default)), .d (.int .i64 ((aset 16 ((a0.getD (IntKind.i64.wrap ((a0.length : Int) - 1)).toNat default).S) ((a0.getD (IntKind.i64.wrap ((a0.length : Int) - 1)).toNat default).N).toNat x4_3_1).getD 6 default)), .d (.int .i64 ((aset 16 ((a0.getD (IntKind.i64.wrap ((a0.length : Int) - 1)).toNat default).S) ((a0.getD (IntKind.i64.wrap ((a0.length : Int) - 1)).toNat default).N).toNat x4_3_1).getD 7 default)), .d (.int .i64 ((aset 16 ((a0.getD (IntKind.i64.wrap ((a0.length : Int) - 1)).toNat default).S) ((a0.getD (IntKind.i64.wrap ((a0.length : Int) - 1)).toNat default).N).toNat x4_3_1).getD 8 default)), .d (.int .i64 ((aset 16 ((a0.getD (IntKind.i64.wrap ((a0.length : Int) - 1)).toNat default).S) ((a0.getD (IntKind.i64.wrap ((a0.length : Int) - 1)).toNat default).N).toNat x4_3_1).getD 9 default)), .d (.int .i64 ((aset 16 ((a0.getD (IntKind.i64.wrap ((a0.length : Int) - 1)).toNat default).S) ((a0.getD (IntKind.i64.wrap ((a0.length : Int) - 1)).toNat default).N).toNat x4_3_1).getD 10 default)), .d (.int .i64 ((aset 16 ((a0.getD (IntKind.i64.wrap ((a0.length : Int) - 1)).toNat default).S) ((a0.getD (IntKind.i64.wrap ((a0.length : Int) - 1)).toNat default).N).toNat x4_3_1).getD 11 default)), .d (.int .i64 ((aset 16 ((a0.getD (IntKind.i64.wrap ((a0.length : Int) - 1)).toNat default).S) ((a0.getD (IntKind.i64.wrap ((a0.length : Int) - 1)).toNat default).N).toNat x4_3_1).getD 12 default)), .d (.int .i64 ((aset 16 ((a0.getD (IntKind.i64.wrap ((a0.length : Int) - 1)).toNat default).S) ((a0.getD (IntKind.i64.wrap ((a0.length : Int) - 1)).toNat default).N).toNat x4_3_1).getD 13 default)), .d (.int .i64 ((aset 16 ((a0.getD (IntKind.i64.wrap ((a0.length : Int) - 1)).toNat default).S) ((a0.getD (IntKind.i64.wrap ((a0.length : Int) - 1)).toNat default).N).toNat x4_3_1).getD 14 default)), .d (.int .i64 ((aset 16 ((a0.getD (IntKind.i64.wrap ((a0.length : Int) - 1)).toNat default).S) ((a0.getD (IntKind.i64.wrap ((a0.length : Int) - 1)).toNat default).N).toNat x4_3_1).getD 15 default))]) rfl rfl rfl rfl rfl (by kernel_rfl) rfl rfl (nIn_ok g4_8_1) rfl rfl rfl) rfl rfl rfl ?_
        refine WH.run 1 tt_ok rfl rfl rfl rfl trivial ?_
        refine WH.eff 0 tt_ok et_ok rfl rfl rfl rfl trivial rfl rfl ?_
        exact WH.nilF rfl (LessW.mk' ⟨AVle.of rfl, AVle.of rfl, trivial⟩ ⟨rfl, trivial⟩)
      · refine WH.val tt_ok rfl rfl rfl rfl rfl trivial rfl rfl ?_
        refine WH.run 1 tt_ok rfl rfl rfl rfl trivial ?_
        refine WH.val tt_ok rfl rfl rfl rfl rfl trivial rfl rfl ?_
        refine WH.yv rfl (LJ.Y.idxPtrA 16 ((a0.getD (IntKind.i64.wrap ((a0.length : Int) - 1)).toNat default).N) (by kernel_rfl) rfl rfl rfl (nIn_ok g4_8_1)) rfl rfl rfl ?_
        refine WH.step rfl (WO.storePtrA 16 11 (fun x : Int => DV.int .i64 x) ((a0.getD (IntKind.i64.wrap ((a0.length : Int) - 1)).toNat default).S) x4_3_1 ((a0.getD (IntKind.i64.wrap ((a0.length : Int) - 1)).toNat default).N) (cs' := [.d (.int .i64 ((a0.getD (IntKind.i64.wrap ((a0.length : Int) - 1)).toNat default).Fn)), .d (.int .i64 ((a0.getD (IntKind.i64.wrap ((a0.length : Int) - 1)).toNat default).Pc)), .d (.int .i64 ((a0.getD (IntKind.i64.wrap ((a0.length : Int) - 1)).toNat default).N)), .d (.int .i64 (((a0.getD (IntKind.i64.wrap ((a0.length : Int) - 1)).toNat default).L).getD 0 default)), .d (.int .i64 (((a0.getD (IntKind.i64.wrap ((a0.length : Int) - 1)).toNat default).L).getD 1 default)), .d (.int .i64 (((a0.getD (IntKind.i64.wrap ((a0.length : Int) - 1)).toNat default).L).getD 2 default)), .d (.int .i64 (((a0.getD (IntKind.i64.wrap ((a0.length : Int) - 1)).toNat default).L).getD 3 default)), .d (.int .i64 (((a0.getD (IntKind.i64.wrap ((a0.length : Int) - 1)).toNat default).L).getD 4 default)), .d (.int .i64 (((a0.getD (IntKind.i64.wrap ((a0.length : Int) - 1)).toNat default).L).getD 5 default)), .d (.int .i64 (((a0.getD (IntKind.i64.wrap ((a0.length : Int) - 1)).toNat default).L).getD 6 default)), .d (.int .i64 (((a0.getD (IntKind.i64.wrap ((a0.length : Int) - 1)).toNat default).L).getD 7 default)), .d (.int .i64 ((aset 16 ((a0.getD (IntKind.i64.wrap ((a0.length : Int) - 1)).toNat default).S) ((a0.getD (IntKind.i64.wrap ((a0.length : Int) - 1)).toNat default).N).toNat x4_3_1).getD 0 default)), .d (.int .i64 ((aset 16 ((a0.getD (IntKind.i64.wrap ((a0.length : Int) - 1)).toNat default).S) ((a0.getD (IntKind.i64.wrap ((a0.length : Int) - 1)).toNat default).N).toNat x4_3_1).getD 1 default)), .d (.int .i64 ((aset 16 ((a0.getD (IntKind.i64.wrap ((a0.length : Int) - 1)).toNat default).S) ((a0.getD (IntKind.i64.wrap ((a0.length : Int) - 1)).toNat default).N).toNat x4_3_1).getD 2 default)), .d (.int .i64 ((aset 16 ((a0.getD (IntKind.i64.wrap ((a0.length : Int) - 1)).toNat default).S) ((a0.getD (IntKind.i64.wrap ((a0.length : Int) - 1)).toNat default).N).toNat x4_3_1).getD 3 default)), .d (.int .i64 ((aset 16 ((a0.getD (IntKind.i64.wrap ((a0.length : Int) - 1)).toNat default).S) ((a0.getD (IntKind.i64.wrap ((a0.length : Int) - 1)).toNat default).N).toNat x4_3_1).getD 4 default)), .d (.int .i64 ((aset 16 ((a0.getD (IntKind.i64.wrap ((a0.length : Int) - 1)).toNat default).S) ((a0.getD (IntKind.i64.wrap ((a0.length : Int) - 1)).toNat default).N).toNat x4_3_1).getD 5 default)), .d (.int .i64 ((aset 16 ((a0.getD (IntKind.i64.wrap ((a0.length : Int) - 1)).toNat default).S) ((a0.getD (IntKind.i64.wrap ((a0.length : Int) - 1)).toNat default).N).toNat x4_3_1).getD 6 default)), .d (.int .i64 ((aset 16 ((a0.getD (IntKind.i64.wrap ((a0.length : Int) - 1)).toNat default).S) ((a0.getD (IntKind.i64.wrap ((a0.length : Int) - 1)).toNat default).N).toNat x4_3_1).getD 7 default)), .d (.int .i64 ((aset 16 ((a0.getD (IntKind.i64.wrap ((a0.length : Int) - 1)).toNat default).S) ((a0.getD (IntKind.i64.wrap ((a0.length : Int) - 1)).toNat default).N).toNat x4_3_1).getD 8 default)), .d (.int .i64 ((aset 16 ((a0.getD (IntKind.i64.wrap ((a0.length : Int) - 1)).toNat default).S) ((a0.getD (IntKind.i64.wrap ((a0.length : Int) - 1)).toNat default).N).toNat x4_3_1).getD 9 default)), .d (.int .i64 ((aset 16 ((a0.getD (IntKind.i64.wrap ((a0.length : Int) - 1)).toNat default).S) ((a0.getD (IntKind.i64.wrap ((a0.length : Int) - 1)).toNat default).N).toNat x4_3_1).getD 10 default)), .d (.int .i64 ((aset 16 ((a0.getD (IntKind.i64.wrap ((a0.length : Int) - 1)).toNat default).S) ((a0.getD (IntKind.i64.wrap ((a0.length : Int) - 1)).toNat default).N).toNat x4_3_1).getD 11 default)), .d (.int .i64 ((aset 16 ((a0.getD (IntKind.i64.wrap ((a0.length : Int) - 1)).toNat default).S) ((a0.getD (IntKind.i64.wrap ((a0.length : Int) - 1)).toNat default).N).toNat x4_3_1).getD 12 default)), .d (.int .i64 ((aset 16 ((a0.getD (IntKind.i64.wrap ((a0.length : Int) - 1)).toNat default).S) ((a0.getD (IntKind.i64.wrap ((a0.length : Int) - 1)).toNat default).N).toNat x4_3_1).getD 13 default)), .d (.int .i64 ((aset 16 ((a0.getD (IntKind.i64.wrap ((a0.length : Int) - 1)).toNat default).S) ((a0.getD (IntKind.i64.wrap ((a0.length : Int) - 1)).toNat default).N).toNat x4_3_1).getD 14 default)), .d (.int .i64 ((aset 16 ((a0.getD (IntKind.i64.wrap ((a0.length : Int) - 1)).toNat default).S) ((a0.getD (IntKind.i64.wrap ((a0.length : Int) - 1)).toNat default).N).toNat x4_3_1).getD 15 default))]) rfl rfl rfl rfl rfl (by kernel_rfl) rfl rfl (nIn_ok g4_8_1) rfl rfl rfl) rfl rfl rfl ?_
        refine WH.run 1 tt_ok rfl rfl rfl rfl trivial ?_
        refine WH.eff 0 tt_ok et_ok rfl rfl rfl rfl trivial rfl rfl ?_
        exact WH.nilF rfl (LessW.mk' ⟨AVle.of rfl, AVle.of rfl, trivial⟩ ⟨rfl, trivial⟩)
    · refine WH.val tt_ok rfl rfl rfl rfl rfl trivial rfl rfl ?_
      refine WH.run 1 tt_ok rfl rfl rfl rfl trivial ?_
      refine WH.fork ?_ ?_
      · refine WH.val tt_ok rfl rfl rfl rfl rfl trivial rfl rfl ?_
        refine WH.call [] rfl (ref03_Low_0 _ hx4_3_1) ref03_Low_f rfl rfl trivial rfl rfl rfl rfl rfl ?_
        refine WH.yv rfl (LJ.Y.idxPtrA 16 ((a0.getD (IntKind.i64.wrap ((a0.length : Int) - 1)).toNat default).N) (by kernel_rfl) rfl rfl rfl (nIn_ok g4_8_1)) rfl rfl rfl ?_
        refine WH.step rfl (WO.storePtrA 16 11 (fun x : Int => DV.int .i64 x) ((a0.getD (IntKind.i64.wrap ((a0.length : Int) - 1)).toNat default).S) x4_3_1 ((a0.getD (IntKind.i64.wrap ((a0.length : Int) - 1)).toNat default).N) (cs' := [.d (.int .i64 ((a0.getD (IntKind.i64.wrap ((a0.length : Int) - 1)).toNat default).Fn)), .d (.int .i64 ((a0.getD (IntKind.i64.wrap ((a0.length : Int) - 1)).toNat default).Pc)), .d (.int .i64 ((a0.getD (IntKind.i64.wrap ((a0.length : Int) - 1)).toNat default).N)), .d (.int .i64 (((a0.getD (IntKind.i64.wrap ((a0.length : Int) - 1)).toNat default).L).getD 0 default)), .d (.int .i64 (((a0.getD (IntKind.i64.wrap ((a0.length : Int) - 1)).toNat default).L).getD 1 default)), .d (.int .i64 (((a0.getD (IntKind.i64.wrap ((a0.length : Int) - 1)).toNat default).L).getD 2 default)), .d (.int .i64 (((a0.getD (IntKind.i64.wrap ((a0.length : Int) - 1)).toNat default).L).getD 3 default)), .d (.int .i64 (((a0.getD (IntKind.i64.wrap ((a0.length : Int) - 1)).toNat default).L).getD 4 default)), .d (.int .i64 (((a0.getD (IntKind.i64.wrap ((a0.length : Int) - 1)).toNat default).L).getD 5 default)), .d (.int .i64 (((a0.getD (IntKind.i64.wrap ((a0.length : Int) - 1)).toNat default).L).getD 6 default)), .d (.int .i64 (((a0.getD (IntKind.i64.wrap ((a0.length : Int) - 1)).toNat default).L).getD 7 default)), .d (.int .i64 ((aset 16 ((a0.getD (IntKind.i64.wrap ((a0.length : Int) - 1)).toNat default).S) ((a0.getD (IntKind.i64.wrap ((a0.length : Int) - 1)).toNat default).N).toNat x4_3_1).getD 0 default)), .d (.int .i64 ((aset 16 ((a0.getD (IntKind.i64.wrap ((a0.length : Int) - 1)).toNat default).S) ((a0.getD (IntKind.i64.wrap ((a0.length : Int) - 1)).toNat default).N).toNat x4_3_1).getD 1 default)), .d (.int .i64 ((aset 16 ((a0.getD (IntKind.i64.wrap ((a0.length : Int) - 1)).toNat default).S) ((a0.getD (IntKind.i64.wrap ((a0.length : Int) - 1)).toNat default).N).toNat x4_3_1).getD 2 default)), .d (.int .i64 ((aset 16 ((a0.getD (IntKind.i64.wrap ((a0.length : Int) - 1)).toNat default).S) ((a0.getD (IntKind.i64.wrap ((a0.length : Int) - 1)).toNat default).N).toNat x4_3_1).getD 3 default)), .d (.int .i64 ((aset 16 ((a0.getD (IntKind.i64.wrap ((a0.length : Int) - 1)).toNat default).S) ((a0.getD (IntKind.i64.wrap ((a0.length : Int) - 1)).toNat default).N).toNat x4_3_1).getD 4 default)), .d (.int .i64 ((aset 16 ((a0.getD (IntKind.i64.wrap ((a0.length : Int) - 1)).toNat default).S) ((a0.getD (IntKind.i64.wrap ((a0.length : Int) - 1)).toNat default).N).toNat x4_3_1).getD 5 default)), .d (.int .i64 ((aset 16 ((a0.getD (IntKind.i64.wrap ((a0.length : Int) - 1)).toNat default).S) ((a0.getD (IntKind.i64.wrap ((a0.length : Int) - 1)).toNat default).N).toNat x4_3_1).getD 6 default)), .d (.int .i64 ((aset 16 ((a0.getD (IntKind.i64.wrap ((a0.length : Int) - 1)).toNat default).S) ((a0.getD (IntKind.i64.wrap ((a0.length : Int) - 1)).toNat default).N).toNat x4_3_1).getD 7 default)), .d (.int .i64 ((aset 16 ((a0.getD (IntKind.i64.wrap ((a0.length : Int) - 1)).toNat default).S) ((a0.getD (IntKind.i64.wrap ((a0.length : Int) - 1)).toNat default).N).toNat x4_3_1).getD 8 default)), .d (.int .i64 ((aset 16 ((a0.getD (IntKind.i64.wrap ((a0.length : Int) - 1)).toNat default).S) ((a0.getD (IntKind.i64.wrap ((a0.length : Int) - 1)).toNat default).N).toNat x4_3_1).getD 9 default)), .d (.int .i64 ((aset 16 ((a0.getD (IntKind.i64.wrap ((a0.length : Int) - 1)).toNat default).S) ((a0.getD (IntKind.i64.wrap ((a0.length : Int) - 1)).toNat default).N).toNat x4_3_1).getD 10 default)), .d (.int .i64 ((aset 16 ((a0.getD (IntKind.i64.wrap ((a0.length : Int) - 1)).toNat default).S) ((a0.getD (IntKind.i64.wrap ((a0.length : Int) - 1)).toNat default).N).toNat x4_3_1).getD 11 default)), .d (.int .i64 ((aset 16 ((a0.getD (IntKind.i64.wrap ((a0.length : Int) - 1)).toNat default).S) ((a0.getD (IntKind.i64.wrap ((a0.length : Int) - 1)).toNat default).N).toNat x4_3_1).getD 12 default)), .d (.int .i64 ((aset 16 ((a0.getD (IntKind.i64.wrap ((a0.length : Int) - 1)).toNat default).S) ((a0.getD (IntKind.i64.wrap ((a0.length : Int) - 1)).toNat default).N).toNat x4_3_1).getD 13 default)), .d (.int .i64 ((aset 16 ((a0.getD (IntKind.i64.wrap ((a0.length : Int) - 1)).toNat default).S) ((a0.getD (IntKind.i64.wrap ((a0.length : Int) - 1)).toNat default).N).toNat x4_3_1).getD 14 default)), .d (.int .i64 ((aset 16 ((a0.getD (IntKind.i64.wrap ((a0.length : Int) - 1)).toNat default).S) ((a0.getD (IntKind.i64.wrap ((a0.length : Int) - 1)).toNat default).N).toNat x4_3_1).getD 15 default))]) rfl rfl rfl rfl rfl (by kernel_rfl) rfl rfl (nIn_ok g4_8_1) rfl rfl rfl) rfl rfl rfl ?_
        refine WH.run 1 tt_ok rfl rfl rfl rfl trivial ?_
        refine WH.eff 0 tt_ok et_ok rfl rfl rfl rfl trivial rfl rfl ?_
        exact WH.nilF rfl (LessW.mk' ⟨AVle.of rfl, AVle.of rfl, trivial⟩ ⟨rfl, trivial⟩)
      · refine WH.call [] rfl (ref03_Low_0 _ hx4_3_1) ref03_Low_f rfl rfl trivial rfl rfl rfl rfl rfl ?_
        refine WH.val tt_ok rfl rfl rfl rfl rfl trivial rfl rfl ?_
        refine WH.yv rfl (LJ.Y.idxPtrA 16 ((a0.getD (IntKind.i64.wrap ((a0.length : Int) - 1)).toNat default).N) (by kernel_rfl) rfl rfl rfl (nIn_ok g4_8_1)) rfl rfl rfl ?_
        refine WH.step rfl (WO.storePtrA 16 11 (fun x : Int => DV.int .i64 x) ((a0.getD (IntKind.i64.wrap ((a0.length : Int) - 1)).toNat default).S) x4_3_1 ((a0.getD (IntKind.i64.wrap ((a0.length : Int) - 1)).toNat default).N) (cs' := [.d (.int .i64 ((a0.getD (IntKind.i64.wrap ((a0.length : Int) - 1)).toNat default).Fn)), .d (.int .i64 ((a0.getD (IntKind.i64.wrap ((a0.length : Int) - 1)).toNat default).Pc)), .d (.int .i64 ((a0.getD (IntKind.i64.wrap ((a0.length : Int) - 1)).toNat default).N)), .d (.int .i64 (((a0.getD (IntKind.i64.wrap ((a0.length : Int) - 1)).toNat default).L).getD 0 default)), .d (.int .i64 (((a0.getD (IntKind.i64.wrap ((a0.length : Int) - 1)).toNat default).L).getD 1 default)), .d (.int .i64 (((a0.getD (IntKind.i64.wrap ((a0.length : Int) - 1)).toNat default).L).getD 2 default)), .d (.int .i64 (((a0.getD (IntKind.i64.wrap ((a0.length : Int) - 1)).toNat default).L).getD 3 default)), .d (.int .i64 (((a0.getD (IntKind.i64.wrap ((a0.length : Int) - 1)).toNat default).L).getD 4 default)), .d (.int .i64 (((a0.getD (IntKind.i64.wrap ((a0.length : Int) - 1)).toNat default).L).getD 5 default)), .d (.int .i64 (((a0.getD (IntKind.i64.wrap ((a0.length : Int) - 1)).toNat default).L).getD 6 default)), .d (.int .i64 (((a0.getD (IntKind.i64.wrap ((a0.length : Int) - 1)).toNat default).L).getD 7 default)), .d (.int .i64 ((aset 16 ((a0.getD (IntKind.i64.wrap ((a0.length : Int) - 1)).toNat default).S) ((a0.getD (IntKind.i64.wrap ((a0.length : Int) - 1)).toNat default).N).toNat x4_3_1).getD 0 default)), .d (.int .i64 ((aset 16 ((a0.getD (IntKind.i64.wrap ((a0.length : Int) - 1)).toNat default).S) ((a0.getD (IntKind.i64.wrap ((a0.length : Int) - 1)).toNat default).N).toNat x4_3_1).getD 1 default)), .d (.int .i64 ((aset 16 ((a0.getD (IntKind.i64.wrap ((a0.length : Int) - 1)).toNat default).S) ((a0.getD (IntKind.i64.wrap ((a0.length : Int) - 1)).toNat default).N).toNat x4_3_1).getD 2 default)), .d (.int .i64 ((aset 16 ((a0.getD (IntKind.i64.wrap ((a0.length : Int) - 1)).toNat default).S) ((a0.getD (IntKind.i64.wrap ((a0.length : Int) - 1)).toNat default).N).toNat x4_3_1).getD 3 default)), .d (.int .i64 ((aset 16 ((a0.getD (IntKind.i64.wrap ((a0.length : Int) - 1)).toNat default).S) ((a0.getD (IntKind.i64.wrap ((a0.length : Int) - 1)).toNat default).N).toNat x4_3_1).getD 4 default)), .d (.int .i64 ((aset 16 ((a0.getD (IntKind.i64.wrap ((a0.length : Int) - 1)).toNat default).S) ((a0.getD (IntKind.i64.wrap ((a0.length : Int) - 1)).toNat default).N).toNat x4_3_1).getD 5 default)), .d (.int .i64 ((aset 16 ((a0.getD (IntKind.i64.wrap ((a0.length : Int) - 1)).toNat default).S) ((a0.getD (IntKind.i64.wrap ((a0.length : Int) - 1)).toNat default).N).toNat x4_3_1).getD 6 default)), .d (.int .i64 ((aset 16 ((a0.getD (IntKind.i64.wrap ((a0.length : Int) - 1)).toNat default).S) ((a0.getD (IntKind.i64.wrap ((a0.length : Int) - 1)).toNat default).N).toNat x4_3_1).getD 7 default)), .d (.int .i64 ((aset 16 ((a0.getD (IntKind.i64.wrap ((a0.length : Int) - 1)).toNat default).S) ((a0.getD (IntKind.i64.wrap ((a0.length : Int) - 1)).toNat default).N).toNat x4_3_1).getD 8 default)), .d (.int .i64 ((aset 16 ((a0.getD (IntKind.i64.wrap ((a0.length : Int) - 1)).toNat default).S) ((a0.getD (IntKind.i64.wrap ((a0.length : Int) - 1)).toNat default).N).toNat x4_3_1).getD 9 default)), .d (.int .i64 ((aset 16 ((a0.getD (IntKind.i64.wrap ((a0.length : Int) - 1)).toNat default).S) ((a0.getD (IntKind.i64.wrap ((a0.length : Int) - 1)).toNat default).N).toNat x4_3_1).getD 10 default)), .d (.int .i64 ((aset 16 ((a0.getD (IntKind.i64.wrap ((a0.length : Int) - 1)).toNat default).S) ((a0.getD (IntKind.i64.wrap ((a0.length : Int) - 1)).toNat default).N).toNat x4_3_1).getD 11 default)), .d (.int .i64 ((aset 16 ((a0.getD (IntKind.i64.wrap ((a0.length : Int) - 1)).toNat default).S) ((a0.getD (IntKind.i64.wrap ((a0.length : Int) - 1)).toNat default).N).toNat x4_3_1).getD 12 default)), .d (.int .i64 ((aset 16 ((a0.getD (IntKind.i64.wrap ((a0.length : Int) - 1)).toNat default).S) ((a0.getD (IntKind.i64.wrap ((a0.length : Int) - 1)).toNat default).N).toNat x4_3_1).getD 13 default)), .d (.int .i64 ((aset 16 ((a0.getD (IntKind.i64.wrap ((a0.length : Int) - 1)).toNat default).S) ((a0.getD (IntKind.i64.wrap ((a0.length : Int) - 1)).toNat default).N).toNat x4_3_1).getD 14 default)), .d (.int .i64 ((aset 16 ((a0.getD (IntKind.i64.wrap ((a0.length : Int) - 1)).toNat default).S) ((a0.getD (IntKind.i64.wrap ((a0.length : Int) - 1)).toNat default).N).toNat x4_3_1).getD 15 default))]) rfl rfl rfl rfl rfl (by kernel_rfl) rfl rfl (nIn_ok g4_8_1) rfl rfl rfl) rfl rfl rfl ?_
        refine WH.run 1 tt_ok rfl rfl rfl rfl trivial ?_
        refine WH.eff 0 tt_ok et_ok rfl rfl rfl rfl trivial rfl rfl ?_
        exact WH.nilF rfl (LessW.mk' ⟨AVle.of rfl, AVle.of rfl, trivial⟩ ⟨rfl, trivial⟩)
  · refine QT.n ?_
    refine WC.seq ?_
    refine WC.region ?_
    refine WL.run 2 tt_ok sg0 rfl rfl trivial ?_
    obtain ⟨x5, hx5, H⟩ := of_bind H
    refine WL.call [2480] (ref14_with_s 2480 rfl _ _ hx5) ref14_with_f rfl rfl trivial rfl rfl rfl ?_
    refine WL.run 2 tt_ok sg0 rfl rfl trivial ?_
    refine WL.nil ?_
    refine QT.n ?_
    refine WC.freezeT 2480 enc_api_Frame x5 rfl rfl rfl rfl ?_
    refine WC.ret ?_
    cases H
    exact Ends.auto rfl rfl rfl trivial
theorem ref14_Push_f : hasFunc Try.prog 35 Try.f35 := ⟨Try.func35, rfl, by kernel_rfl⟩

/-! ### logjam/logjamref14.Ret -/
theorem ref14_Ret_0 (a0 : List T_api_Frame) {r : (List T_api_Frame) × Int × Bool} (H : ref14_Ret a0 = some r) : LJ.Spec Try.prog 29 [.d (slT enc_api_Frame a0)] [] (.tup [.d (slT enc_api_Frame r.1), .d (.int .i64 r.2.1), .d (.bool r.2.2)]) [] := by
  refine LJ.Spec.code Try.func29 rfl 42 rfl rfl [] rfl fun w0 F0 S0 B0 => ?_
  unfold ref14_Ret at H
  refine WC.seq ?_
  refine WC.region ?_
  refine WL.run 3 tt_ok sg0 rfl rfl trivial ?_
  refine WL.nil ?_
  refine QT.n ?_
  refine WC.seq ?_
  refine WC.region ?_
  refine WL.run 1 tt_ok sg0 rfl rfl trivial ?_
  obtain ⟨x1, hx1, H⟩ := of_bind H
  refine WL.call [2120] (ref14_Pop_s 2120 rfl _ _ hx1) ref14_Pop_f rfl rfl trivial rfl rfl rfl ?_
  refine WL.run 7 tt_ok sg0 rfl rfl trivial ?_
  refine WL.nil ?_
  refine QT.n ?_
  refine WC.seq ?_
  refine WC.seq ?_
  refine WC.region ?_
  refine WL.run 2 tt_ok sg0 rfl rfl trivial ?_
  refine WL.nil ?_
  refine QT.n ?_
  refine WC.cond rfl (fun h2 => ?_) (fun h2 => ?_)
  · replace H := of_t H h2
    refine WC.seq ?_
    refine WC.region ?_
    refine WL.run 3 tt_ok sg0 rfl rfl trivial ?_
    refine WL.nil ?_
    refine QT.n ?_
    refine WC.nilT 2 enc_api_Frame rfl ?_
    refine WC.ret ?_
    refine QT.r ?_
    cases H
    exact Ends.auto rfl rfl rfl trivial
  replace H := of_f H h2
  refine WC.skip ?_
  refine QT.n ?_
  refine WC.seq ?_
  refine WC.seq ?_
  refine WC.region ?_
  refine WL.run 3 tt_ok sg0 rfl rfl trivial ?_
  refine WL.nil ?_
  refine QT.n ?_
  refine WC.cond rfl (fun h3 => ?_) (fun h3 => ?_)
  · replace H := of_t H h3
    refine WC.seq ?_
    refine WC.heldP (.one 0 true (.one 1 true (.one 2 true (.one 3 true (.one 4 true (.one 5 true .done)))))) [] [] rfl (by kernel_rfl) rfl (by kernel_rfl) rfl rfl (fun _ h => h) rfl rfl rfl (fun _ _ _ h => h) fun FK NK wK K => ?_
    obtain ⟨g4, H⟩ := of_need H
    refine WH.run 6 tt_ok rfl rfl rfl rfl ⟨⟨(nIn_ok g4).1, (nIn_ok g4).2, rfl⟩, trivial⟩ ?_
    refine WH.nil rfl ?_
    refine QT.n ?_
    refine WC.nilT 2 enc_api_Frame rfl ?_
    refine WC.ret ?_
    refine QT.r ?_
    cases H
    exact Ends.auto rfl rfl rfl trivial
  replace H := of_f H h3
  refine WC.skip ?_
  refine QT.n ?_
  refine WC.seq ?_
  obtain ⟨g6_4_1, H⟩ := of_need H
  obtain ⟨g6_6_1, H⟩ := of_need H
  obtain ⟨x6_8_1, hx6_8_1, H⟩ := of_bind H
  refine WC.heldF [(6, .d (slT enc_i64 x1.2.1)), (8, .d (slT enc_api_Frame x6_8_1.1)), (9, .d (.bool x6_8_1.2))] [] (.one 0 true (.one 1 true (.one 2 true (.one 3 true (.one 4 true (.one 5 true (.one 6 true (.one 7 true (.one 8 false (.one 9 true (.fork (.one 10 false (.one 12 true (.one 11 false (.one 13 true .done)))) (.one 11 false (.one 10 false (.one 12 true (.one 13 true .done))))))))))))))) [] [] rfl (by kernel_rfl) rfl (by kernel_rfl) rfl rfl (fun _ h => h) rfl rfl rfl (fun FK NK wK K => ?_) ?_
  · refine WH.run 4 tt_ok rfl rfl rfl rfl trivial ?_
    refine WH.yv rfl (LJ.Y.sliceT enc_api_Frame a0 tt_ok rfl (fun _ => rfl) none (some (.tmp 28)) (0 : Int) (IntKind.i64.wrap ((a0.length : Int) - 1)) rfl rfl ⟨_, rfl⟩ rfl rfl (nSl_ok g6_4_1)) rfl rfl rfl ?_
    refine WH.run 3 tt_ok rfl rfl rfl rfl ⟨⟨(nIn_ok g6_6_1).1, (nIn_ok g6_6_1).2, rfl⟩, trivial⟩ ?_
    refine WH.call [] rfl (ref14_Push_0 _ _ hx6_8_1) ref14_Push_f rfl rfl trivial rfl rfl rfl rfl rfl ?_
    refine WH.mv rfl rfl rfl rfl rfl rfl rfl rfl rfl ?_
    refine WH.fork ?_ ?_
    · refine WH.val tt_ok rfl rfl rfl rfl rfl trivial rfl rfl ?_
      refine WH.mv rfl rfl rfl rfl rfl rfl rfl rfl rfl ?_
      refine WH.val tt_ok rfl rfl rfl rfl rfl trivial rfl rfl ?_
      refine WH.run 1 tt_ok rfl rfl rfl rfl trivial ?_
      exact WH.nilF rfl (LessW.mk' ⟨AVle.of rfl, AVle.of rfl, AVle.of rfl, trivial⟩ trivial)
    · refine WH.val tt_ok rfl rfl rfl rfl rfl trivial rfl rfl ?_
      refine WH.val tt_ok rfl rfl rfl rfl rfl trivial rfl rfl ?_
      refine WH.mv rfl rfl rfl rfl rfl rfl rfl rfl rfl ?_
      refine WH.run 1 tt_ok rfl rfl rfl rfl trivial ?_
      exact WH.nilF rfl (LessW.mk' ⟨AVle.of rfl, AVle.of rfl, AVle.of rfl, trivial⟩ trivial)
  · refine QT.n ?_
    refine WC.seq ?_
    refine WC.seq ?_
    refine WC.region ?_
    refine WL.run 2 tt_ok sg0 rfl rfl trivial ?_
    refine WL.nil ?_
    refine QT.n ?_
    refine WC.cond rfl (fun h5 => ?_) (fun h5 => ?_)
    · replace H := of_t H h5
      refine WC.seq ?_
      refine WC.region ?_
      refine WL.run 3 tt_ok sg0 rfl rfl trivial ?_
      refine WL.nil ?_
      refine QT.n ?_
      refine WC.nilT 2 enc_api_Frame rfl ?_
      refine WC.ret ?_
      refine QT.r ?_
      cases H
      exact Ends.auto rfl rfl rfl trivial
    replace H := of_f H h5
    refine WC.skip ?_
    refine QT.n ?_
    refine WC.seq ?_
    refine WC.heldP (.one 0 true (.one 1 true (.one 2 true (.one 3 true (.one 4 true (.one 5 true (.one 6 true .done))))))) [] [] rfl (by kernel_rfl) rfl (by kernel_rfl) rfl rfl (fun _ h => h) rfl rfl rfl (fun _ _ _ h => h) fun FK NK wK K => ?_
    obtain ⟨g6, H⟩ := of_need H
    refine WH.run 7 tt_ok rfl rfl rfl rfl ⟨⟨(nIn_ok g6).1, (nIn_ok g6).2, rfl⟩, trivial⟩ ?_
    refine WH.nil rfl ?_
    refine QT.n ?_
    refine WC.ret ?_
    cases H
    exact Ends.auto rfl rfl rfl trivial
theorem ref14_Ret_f : hasFunc Try.prog 29 Try.f29 := ⟨Try.func29, rfl, by kernel_rfl⟩

/-! ### logjam/logjamref14.Store -/
theorem ref14_Store_0 (a0 : List T_api_Frame) (a1 : Int) (a2 : Int) {r : List T_api_Frame} (H : ref14_Store a0 a1 a2 = some r) : LJ.Spec Try.prog 32 [.d (slT enc_api_Frame a0), .d (.int .i64 a1), .d (.int .i64 a2)] [] (.d (slT enc_api_Frame r)) [] := by
  refine LJ.Spec.code Try.func32 rfl 34 rfl rfl [] rfl fun w0 F0 S0 B0 => ?_
  unfold ref14_Store at H
  refine WC.seq ?_
  refine WC.region ?_
  refine WL.run 1 tt_ok sg0 rfl rfl trivial ?_
  refine WL.nil ?_
  refine QT.n ?_
  refine WC.seq ?_
  refine WC.seq ?_
  refine WC.region ?_
  refine WL.run 4 tt_ok sg0 rfl rfl trivial ?_
  refine WL.sect 2 3 false tt_ok sg0 rfl rfl (fun _ => trivial) ?_
  refine WL.run 2 tt_ok sg0 rfl rfl ⟨by first | exact id | exact fun h => by rw [h]; rfl | simp_all, trivial⟩ ?_
  refine WL.sect 2 7 false tt_ok sg0 rfl rfl (fun _ => trivial) ?_
  refine WL.run 1 tt_ok sg0 rfl rfl ⟨by first | exact id | exact fun h => by rw [h]; rfl | simp_all, trivial⟩ ?_
  refine WL.nil ?_
  refine QT.n ?_
  refine WC.cond rfl (fun h1 => ?_) (fun h1 => ?_)
  · replace H := of_t H h1
    refine WC.seq ?_
    refine WC.region ?_
    refine WL.run 2 tt_ok sg0 rfl rfl trivial ?_
    refine WL.nil ?_
    refine QT.n ?_
    refine WC.ret ?_
    refine QT.r ?_
    cases H
    exact Ends.auto rfl rfl rfl trivial
  replace H := of_f H h1
  refine WC.skip ?_
  refine QT.n ?_
  refine WC.seq ?_
  refine WC.region ?_
  obtain ⟨g2, H⟩ := of_need H
  refine WL.run 6 tt_ok sg0 rfl rfl ⟨⟨(nIn_ok g2).1, (nIn_ok g2).2, rfl⟩, trivial⟩ ?_
  refine WL.alloc 107 tt_ok rfl rfl rfl ?_
  refine WL.eff 0 tt_ok et_ok eg0 rfl rfl rfl trivial ?_
  refine WL.nil ?_
  refine QT.n ?_
  refine WC.seq ?_
  refine WC.region ?_
  refine WL.run 2 tt_ok sg0 rfl rfl trivial ?_
  obtain ⟨x3, hx3, H⟩ := of_bind H
  refine WL.call [] (ref03_Low_0 _ hx3) ref03_Low_f rfl rfl trivial rfl rfl rfl ?_
  refine WL.run 1 tt_ok sg0 rfl rfl trivial ?_
  obtain ⟨g4, H⟩ := of_need H
  refine WL.yv (LJ.Y.idxPtrA 8 a1 (by kernel_rfl) rfl rfl rfl (nIn_ok g4)) rfl rfl rfl ?_
  refine WL.wo (WO.storePtrA 8 3 (fun x : Int => DV.int .i64 x) ((a0.getD (IntKind.i64.wrap ((a0.length : Int) - 1)).toNat default).L) x3 a1 (cs' := [.d (.int .i64 ((a0.getD (IntKind.i64.wrap ((a0.length : Int) - 1)).toNat default).Fn)), .d (.int .i64 ((a0.getD (IntKind.i64.wrap ((a0.length : Int) - 1)).toNat default).Pc)), .d (.int .i64 ((a0.getD (IntKind.i64.wrap ((a0.length : Int) - 1)).toNat default).N)), .d (.int .i64 ((aset 8 ((a0.getD (IntKind.i64.wrap ((a0.length : Int) - 1)).toNat default).L) a1.toNat x3).getD 0 default)), .d (.int .i64 ((aset 8 ((a0.getD (IntKind.i64.wrap ((a0.length : Int) - 1)).toNat default).L) a1.toNat x3).getD 1 default)), .d (.int .i64 ((aset 8 ((a0.getD (IntKind.i64.wrap ((a0.length : Int) - 1)).toNat default).L) a1.toNat x3).getD 2 default)), .d (.int .i64 ((aset 8 ((a0.getD (IntKind.i64.wrap ((a0.length : Int) - 1)).toNat default).L) a1.toNat x3).getD 3 default)), .d (.int .i64 ((aset 8 ((a0.getD (IntKind.i64.wrap ((a0.length : Int) - 1)).toNat default).L) a1.toNat x3).getD 4 default)), .d (.int .i64 ((aset 8 ((a0.getD (IntKind.i64.wrap ((a0.length : Int) - 1)).toNat default).L) a1.toNat x3).getD 5 default)), .d (.int .i64 ((aset 8 ((a0.getD (IntKind.i64.wrap ((a0.length : Int) - 1)).toNat default).L) a1.toNat x3).getD 6 default)), .d (.int .i64 ((aset 8 ((a0.getD (IntKind.i64.wrap ((a0.length : Int) - 1)).toNat default).L) a1.toNat x3).getD 7 default)), .d (.int .i64 (((a0.getD (IntKind.i64.wrap ((a0.length : Int) - 1)).toNat default).S).getD 0 default)), .d (.int .i64 (((a0.getD (IntKind.i64.wrap ((a0.length : Int) - 1)).toNat default).S).getD 1 default)), .d (.int .i64 (((a0.getD (IntKind.i64.wrap ((a0.length : Int) - 1)).toNat default).S).getD 2 default)), .d (.int .i64 (((a0.getD (IntKind.i64.wrap ((a0.length : Int) - 1)).toNat default).S).getD 3 default)), .d (.int .i64 (((a0.getD (IntKind.i64.wrap ((a0.length : Int) - 1)).toNat default).S).getD 4 default)), .d (.int .i64 (((a0.getD (IntKind.i64.wrap ((a0.length : Int) - 1)).toNat default).S).getD 5 default)), .d (.int .i64 (((a0.getD (IntKind.i64.wrap ((a0.length : Int) - 1)).toNat default).S).getD 6 default)), .d (.int .i64 (((a0.getD (IntKind.i64.wrap ((a0.length : Int) - 1)).toNat default).S).getD 7 default)), .d (.int .i64 (((a0.getD (IntKind.i64.wrap ((a0.length : Int) - 1)).toNat default).S).getD 8 default)), .d (.int .i64 (((a0.getD (IntKind.i64.wrap ((a0.length : Int) - 1)).toNat default).S).getD 9 default)), .d (.int .i64 (((a0.getD (IntKind.i64.wrap ((a0.length : Int) - 1)).toNat default).S).getD 10 default)), .d (.int .i64 (((a0.getD (IntKind.i64.wrap ((a0.length : Int) - 1)).toNat default).S).getD 11 default)), .d (.int .i64 (((a0.getD (IntKind.i64.wrap ((a0.length : Int) - 1)).toNat default).S).getD 12 default)), .d (.int .i64 (((a0.getD (IntKind.i64.wrap ((a0.length : Int) - 1)).toNat default).S).getD 13 default)), .d (.int .i64 (((a0.getD (IntKind.i64.wrap ((a0.length : Int) - 1)).toNat default).S).getD 14 default)), .d (.int .i64 (((a0.getD (IntKind.i64.wrap ((a0.length : Int) - 1)).toNat default).S).getD 15 default))]) rfl rfl rfl rfl rfl (by kernel_rfl) rfl rfl (nIn_ok g4) rfl rfl rfl) rfl ?_
  refine WL.nil ?_
  refine QT.n ?_
  refine WC.seq ?_
  refine WC.region ?_
  refine WL.run 2 tt_ok sg0 rfl rfl trivial ?_
  obtain ⟨x5, hx5, H⟩ := of_bind H
  refine WL.call [2330] (ref14_with_s 2330 rfl _ _ hx5) ref14_with_f rfl rfl trivial rfl rfl rfl ?_
  refine WL.run 1 tt_ok sg0 rfl rfl trivial ?_
  refine WL.nil ?_
  refine QT.n ?_
  refine WC.freezeT 2330 enc_api_Frame x5 rfl rfl rfl rfl ?_
  refine WC.ret ?_
  cases H
  exact Ends.auto rfl rfl rfl trivial
theorem ref14_Store_f : hasFunc Try.prog 32 Try.f32 := ⟨Try.func32, rfl, by kernel_rfl⟩

/-! ### logjam/logjamref14.Local -/
theorem ref14_Local_0 (a0 : List T_api_Frame) (a1 : Int) {r : Int} (H : ref14_Local a0 a1 = some r) : LJ.Spec Try.prog 33 [.d (slT enc_api_Frame a0), .d (.int .i64 a1)] [] (.d (.int .i64 r)) [] := by
  refine LJ.Spec.code Try.func33 rfl 25 rfl rfl [] rfl fun w0 F0 S0 B0 => ?_
  unfold ref14_Local at H
  refine WC.seq ?_
  refine WC.region ?_
  refine WL.run 1 tt_ok sg0 rfl rfl trivial ?_
  refine WL.nil ?_
  refine QT.n ?_
  refine WC.seq ?_
  refine WC.seq ?_
  refine WC.region ?_
  refine WL.run 4 tt_ok sg0 rfl rfl trivial ?_
  refine WL.sect 2 3 false tt_ok sg0 rfl rfl (fun _ => trivial) ?_
  refine WL.run 2 tt_ok sg0 rfl rfl ⟨by first | exact id | exact fun h => by rw [h]; rfl | simp_all, trivial⟩ ?_
  refine WL.sect 2 7 false tt_ok sg0 rfl rfl (fun _ => trivial) ?_
  refine WL.run 1 tt_ok sg0 rfl rfl ⟨by first | exact id | exact fun h => by rw [h]; rfl | simp_all, trivial⟩ ?_
  refine WL.nil ?_
  refine QT.n ?_
  refine WC.cond rfl (fun h1 => ?_) (fun h1 => ?_)
  · replace H := of_t H h1
    refine WC.seq ?_
    refine WC.region ?_
    refine WL.run 1 tt_ok sg0 rfl rfl trivial ?_
    refine WL.nil ?_
    refine QT.n ?_
    refine WC.ret ?_
    refine QT.r ?_
    cases H
    exact Ends.auto rfl rfl rfl trivial
  replace H := of_f H h1
  refine WC.skip ?_
  refine QT.n ?_
  refine WC.seq ?_
  refine WC.region ?_
  obtain ⟨g2, H⟩ := of_need H
  refine WL.run 7 tt_ok sg0 rfl rfl ⟨⟨(nIn_ok g2).1, (nIn_ok g2).2, rfl⟩, trivial⟩ ?_
  obtain ⟨g3, H⟩ := of_need H
  refine WL.yv (LJ.Y.idxElpA 8 (fun k => .int .i64 (((a0.getD (IntKind.i64.wrap ((a0.length : Int) - 1)).toNat default).L).getD k default)) a1 (by kernel_rfl) rfl rfl rfl rfl (nIn_ok g3)) rfl rfl rfl ?_
  refine WL.run 2 tt_ok sg0 rfl rfl trivial ?_
  refine WL.nil ?_
  refine QT.n ?_
  refine WC.ret ?_
  cases H
  exact Ends.auto rfl rfl rfl trivial
theorem ref14_Local_f : hasFunc Try.prog 33 Try.f33 := ⟨Try.func33, rfl, by kernel_rfl⟩

/-! ### logjam/logjamref03.exact -/
theorem ref03_exact_0 (a0 : Int) {r : Int × Int} (H : ref03_exact a0 = some r) : LJ.Spec Try.prog 52 [.d (.int .i64 a0)] [] (.tup [.d (.int .i64 r.1), .d (.int .i64 r.2)]) [] := by
  refine LJ.Spec.code Try.func52 rfl 8 rfl rfl [] rfl fun w0 F0 S0 B0 => ?_
  unfold ref03_exact at H
  refine WC.seq ?_
  refine WC.region ?_
  refine WL.run 2 tt_ok sg0 rfl rfl trivial ?_
  refine WL.nil ?_
  refine QT.n ?_
  refine WC.seq ?_
  refine WC.seq ?_
  refine WC.region ?_
  refine WL.run 1 tt_ok sg0 rfl rfl trivial ?_
  obtain ⟨x1, hx1, H⟩ := of_bind H
  refine WL.call [] (ref03_Fits_0 _ hx1) ref03_Fits_f rfl rfl trivial rfl rfl rfl ?_
  refine WL.run 1 tt_ok sg0 rfl rfl trivial ?_
  refine WL.nil ?_
  refine QT.n ?_
  refine WC.cond rfl (fun h2 => ?_) (fun h2 => ?_)
  · replace H := of_t H h2
    refine WC.seq ?_
    refine WC.region ?_
    refine WL.run 2 tt_ok sg0 rfl rfl trivial ?_
    refine WL.nil ?_
    refine QT.n ?_
    refine WC.ret ?_
    refine QT.r ?_
    cases H
    exact Ends.auto rfl rfl rfl trivial
  replace H := of_f H h2
  refine WC.skip ?_
  refine QT.n ?_
  refine WC.seq ?_
  refine WC.region ?_
  refine WL.run 3 tt_ok sg0 rfl rfl trivial ?_
  refine WL.nil ?_
  refine QT.n ?_
  refine WC.ret ?_
  cases H
  exact Ends.auto rfl rfl rfl trivial
theorem ref03_exact_f : hasFunc Try.prog 52 Try.f52 := ⟨Try.func52, rfl, by kernel_rfl⟩

/-! ### logjam/logjamref03.bit -/
theorem ref03_bit_0 (a0 : Int) (a1 : Int) {r : Int} (H : ref03_bit a0 a1 = some r) : LJ.Spec Try.prog 66 [.d (.int .i64 a0), .d (.int .i64 a1)] [] (.d (.int .i64 r)) [] := by
  refine LJ.Spec.code Try.func66 rfl 19 rfl rfl [] rfl fun w0 F0 S0 B0 => ?_
  unfold ref03_bit at H
  refine WC.seq ?_
  refine WC.region ?_
  refine WL.run 1 tt_ok sg0 rfl rfl trivial ?_
  refine WL.nil ?_
  refine QT.n ?_
  refine WC.seq ?_
  refine WC.seq ?_
  refine WC.region ?_
  refine WL.run 2 tt_ok sg0 rfl rfl trivial ?_
  refine WL.nil ?_
  refine QT.n ?_
  refine WC.cond rfl (fun h1 => ?_) (fun h1 => ?_)
  · replace H := of_t H h1
    refine WC.region ?_
    refine WL.run 3 tt_ok sg0 rfl rfl trivial ?_
    refine WL.nil ?_
    refine QT.n ?_
    refine WC.seq ?_
    refine WC.seq ?_
    refine WC.region ?_
    refine WL.run 1 tt_ok sg0 rfl rfl trivial ?_
    refine WL.nil ?_
    refine QT.n ?_
    refine WC.block ?_
    refine WC.loop (ι := {x : Nat × (Int × Int) // ref03_bit_l3 a1 x.1 x.2 = some r}) (fun x => [(0, .d (.int .i64 x.1.2.1)), (1, .d (.int .i64 a1)), (5, .d (.int .i64 x.1.2.2))]) (fun x => []) (fun x => x.1.1) ⟨(fuel, (IntKind.i64.wrap (a0 + 4294967296), 0)), H⟩ (Less.mk' ⟨rfl, rfl, rfl, trivial⟩ trivial) fun x => ?_
    obtain ⟨⟨k3, s2⟩, H⟩ := x
    rcases k3 with _ | k3
    · exact of_none H
    rw [ref03_bit_l3] at H
    refine WC.seq ?_
    refine WC.seq ?_
    refine WC.region ?_
    refine WL.run 3 tt_ok sg0 rfl rfl trivial ?_
    refine WL.nil ?_
    refine QT.n ?_
    refine WC.cond rfl (fun h4 => ?_) (fun h4 => ?_)
    · replace H := of_t H h4
      refine WC.skip ?_
      refine QT.n ?_
      refine WC.seq ?_
      refine WC.block ?_
      refine WC.region ?_
      refine WL.run 3 tt_ok sg0 rfl rfl trivial ?_
      refine WL.nil ?_
      refine QB.n (QT.n ?_)
      refine WC.region ?_
      refine WL.run 3 tt_ok sg0 rfl rfl trivial ?_
      refine WL.nil ?_
      refine QT.n ?_
      exact ⟨⟨(k3, (IntKind.i64.wrap (Int.tdiv s2.1 2), IntKind.i64.wrap (s2.2 + 1))), H⟩, Nat.lt_succ_self _, Less.mk' ⟨rfl, rfl, rfl, trivial⟩ trivial⟩
    replace H := of_f H h4
    refine WC.exit ?_
    refine QT.x (QT.x (QB.hit (QT.n ?_)))
    refine WC.seq ?_
    refine WC.region ?_
    refine WL.run 3 tt_ok sg0 rfl rfl trivial ?_
    refine WL.nil ?_
    refine QT.n ?_
    refine WC.ret ?_
    cases H
    exact Ends.auto rfl rfl rfl trivial
  replace H := of_f H h1
  refine WC.skip ?_
  refine QT.n ?_
  refine WC.seq ?_
  refine WC.seq ?_
  refine WC.region ?_
  refine WL.run 1 tt_ok sg0 rfl rfl trivial ?_
  refine WL.nil ?_
  refine QT.n ?_
  refine WC.block ?_
  refine WC.loop (ι := {x : Nat × (Int × Int) // ref03_bit_l6 a1 x.1 x.2 = some r}) (fun x => [(0, .d (.int .i64 x.1.2.1)), (1, .d (.int .i64 a1)), (5, .d (.int .i64 x.1.2.2))]) (fun x => []) (fun x => x.1.1) ⟨(fuel, (a0, 0)), H⟩ (Less.mk' ⟨rfl, rfl, rfl, trivial⟩ trivial) fun x => ?_
  obtain ⟨⟨k6, s5⟩, H⟩ := x
  rcases k6 with _ | k6
  · exact of_none H
  rw [ref03_bit_l6] at H
  refine WC.seq ?_
  refine WC.seq ?_
  refine WC.region ?_
  refine WL.run 3 tt_ok sg0 rfl rfl trivial ?_
  refine WL.nil ?_
  refine QT.n ?_
  refine WC.cond rfl (fun h7 => ?_) (fun h7 => ?_)
  · replace H := of_t H h7
    refine WC.skip ?_
    refine QT.n ?_
    refine WC.seq ?_
    refine WC.block ?_
    refine WC.region ?_
    refine WL.run 3 tt_ok sg0 rfl rfl trivial ?_
    refine WL.nil ?_
    refine QB.n (QT.n ?_)
    refine WC.region ?_
    refine WL.run 3 tt_ok sg0 rfl rfl trivial ?_
    refine WL.nil ?_
    refine QT.n ?_
    exact ⟨⟨(k6, (IntKind.i64.wrap (Int.tdiv s5.1 2), IntKind.i64.wrap (s5.2 + 1))), H⟩, Nat.lt_succ_self _, Less.mk' ⟨rfl, rfl, rfl, trivial⟩ trivial⟩
  replace H := of_f H h7
  refine WC.exit ?_
  refine QT.x (QT.x (QB.hit (QT.n ?_)))
  refine WC.seq ?_
  refine WC.region ?_
  refine WL.run 3 tt_ok sg0 rfl rfl trivial ?_
  refine WL.nil ?_
  refine QT.n ?_
  refine WC.ret ?_
  cases H
  exact Ends.auto rfl rfl rfl trivial
theorem ref03_bit_f : hasFunc Try.prog 66 Try.f66 := ⟨Try.func66, rfl, by kernel_rfl⟩

/-! ### logjam/logjamref03.bits -/
theorem ref03_bits_0 (a0 : Int) (a1 : Int) (a2 : Int) {r : Int} (H : ref03_bits a0 a1 a2 = some r) : LJ.Spec Try.prog 53 [.d (.int .i64 a0), .d (.int .i64 a1), .d (.int .i64 a2)] [] (.d (.int .i64 r)) [] := by
  refine LJ.Spec.code Try.func53 rfl 57 rfl rfl [] rfl fun w0 F0 S0 B0 => ?_
  unfold ref03_bits at H
  refine WC.seq ?_
  refine WC.region ?_
  refine WL.run 1 tt_ok sg0 rfl rfl trivial ?_
  refine WL.nil ?_
  refine QT.n ?_
  refine WC.seq ?_
  refine WC.region ?_
  refine WL.run 2 tt_ok sg0 rfl rfl trivial ?_
  refine WL.nil ?_
  refine QT.n ?_
  refine WC.seq ?_
  refine WC.seq ?_
  refine WC.region ?_
  refine WL.run 1 tt_ok sg0 rfl rfl trivial ?_
  refine WL.nil ?_
  refine QT.n ?_
  refine WC.block ?_
  refine WC.loop (ι := {x : Nat × (Int × Int × Int) // ref03_bits_l2 a0 a1 a2 x.1 x.2 = some r}) (fun x => [(0, .d (.int .i64 a0)), (1, .d (.int .i64 a1)), (2, .d (.int .i64 a2)), (7, .d (.int .i64 x.1.2.1)), (8, .d (.int .i64 x.1.2.2.1)), (9, .d (.int .i64 x.1.2.2.2))]) (fun x => []) (fun x => x.1.1) ⟨(fuel, (0, 1, 0)), H⟩ (Less.mk' ⟨rfl, rfl, rfl, rfl, rfl, rfl, trivial⟩ trivial) fun x => ?_
  obtain ⟨⟨k2, s1⟩, H⟩ := x
  rcases k2 with _ | k2
  · exact of_none H
  rw [ref03_bits_l2] at H
  refine WC.seq ?_
  refine WC.seq ?_
  refine WC.region ?_
  refine WL.run 2 tt_ok sg0 rfl rfl trivial ?_
  refine WL.nil ?_
  refine QT.n ?_
  refine WC.cond rfl (fun h3 => ?_) (fun h3 => ?_)
  · replace H := of_t H h3
    refine WC.skip ?_
    refine QT.n ?_
    refine WC.seq ?_
    refine WC.block ?_
    refine WC.seq ?_
    refine WC.region ?_
    refine WL.run 2 tt_ok sg0 rfl rfl trivial ?_
    obtain ⟨x4, hx4, H⟩ := of_bind H
    refine WL.call [] (ref03_bit_0 _ _ hx4) ref03_bit_f rfl rfl trivial rfl rfl rfl ?_
    refine WL.run 2 tt_ok sg0 rfl rfl trivial ?_
    obtain ⟨x5, hx5, H⟩ := of_bind H
    refine WL.call [] (ref03_bit_0 _ _ hx5) ref03_bit_f rfl rfl trivial rfl rfl rfl ?_
    refine WL.run 2 tt_ok sg0 rfl rfl trivial ?_
    refine WL.nil ?_
    refine QT.n ?_
    refine WC.seq ?_
    refine WC.seq ?_
    refine WC.region ?_
    refine WL.run 3 tt_ok sg0 rfl rfl trivial ?_
    refine WL.sect 4 2 true tt_ok sg0 rfl rfl (fun _ => trivial) ?_
    refine WL.run 2 tt_ok sg0 rfl rfl ⟨by first | exact id | exact fun h => by rw [h]; rfl | simp_all, trivial⟩ ?_
    refine WL.sect 3 8 false tt_ok sg0 rfl rfl (fun _ => trivial) ?_
    refine WL.sect 4 11 true tt_ok sg0 rfl rfl (fun _ => trivial) ?_
    refine WL.sect 1 8 false tt_ok sg0 rfl rfl (fun hb => ⟨by first | exact id | exact ⟨hb, fun h => by rw [hb, h]; rfl⟩ | exact ⟨hb, id⟩ | exact fun h => by rw [hb, h]; rfl | exact fun h => by rw [h]; rfl | simp_all, trivial⟩) ?_
    refine WL.run 2 tt_ok sg0 rfl rfl ⟨by first | exact id | exact fun h => by rw [h]; rfl | simp_all, trivial⟩ ?_
    refine WL.sect 3 18 false tt_ok sg0 rfl rfl (fun _ => trivial) ?_
    refine WL.sect 4 21 true tt_ok sg0 rfl rfl (fun _ => trivial) ?_
    refine WL.sect 1 18 false tt_ok sg0 rfl rfl (fun hb => ⟨by first | exact id | exact ⟨hb, fun h => by rw [hb, h]; rfl⟩ | exact ⟨hb, id⟩ | exact fun h => by rw [hb, h]; rfl | exact fun h => by rw [h]; rfl | simp_all, trivial⟩) ?_
    refine WL.run 1 tt_ok sg0 rfl rfl ⟨by first | exact id | exact fun h => by rw [h]; rfl | simp_all, trivial⟩ ?_
    refine WL.nil ?_
    refine QT.n ?_
    refine WC.cond rfl (fun h6 => ?_) (fun h6 => ?_)
    · replace H := of_t H h6
      refine WC.region ?_
      refine WL.run 4 tt_ok sg0 rfl rfl trivial ?_
      refine WL.nil ?_
      refine QT.n ?_
      refine WC.region ?_
      refine WL.run 3 tt_ok sg0 rfl rfl trivial ?_
      refine WL.nil ?_
      refine QB.n (QT.n ?_)
      refine WC.region ?_
      refine WL.run 3 tt_ok sg0 rfl rfl trivial ?_
      refine WL.nil ?_
      refine QT.n ?_
      exact ⟨⟨(k2, (IntKind.i64.wrap (s1.1 + s1.2.1), IntKind.i64.wrap (s1.2.1 * 2), IntKind.i64.wrap (s1.2.2 + 1))), H⟩, Nat.lt_succ_self _, Less.mk' ⟨rfl, rfl, rfl, rfl, rfl, rfl, trivial⟩ trivial⟩
    replace H := of_f H h6
    refine WC.skip ?_
    refine QT.n ?_
    refine WC.region ?_
    refine WL.run 3 tt_ok sg0 rfl rfl trivial ?_
    refine WL.nil ?_
    refine QB.n (QT.n ?_)
    refine WC.region ?_
    refine WL.run 3 tt_ok sg0 rfl rfl trivial ?_
    refine WL.nil ?_
    refine QT.n ?_
    exact ⟨⟨(k2, (s1.1, IntKind.i64.wrap (s1.2.1 * 2), IntKind.i64.wrap (s1.2.2 + 1))), H⟩, Nat.lt_succ_self _, Less.mk' ⟨rfl, rfl, rfl, rfl, rfl, rfl, trivial⟩ trivial⟩
  replace H := of_f H h3
  refine WC.exit ?_
  refine QT.x (QT.x (QB.hit (QT.n ?_)))
  refine WC.seq ?_
  refine WC.region ?_
  refine WL.run 1 tt_ok sg0 rfl rfl trivial ?_
  obtain ⟨x7, hx7, H⟩ := of_bind H
  refine WL.call [] (ref03_Low_0 _ hx7) ref03_Low_f rfl rfl trivial rfl rfl rfl ?_
  refine WL.run 1 tt_ok sg0 rfl rfl trivial ?_
  refine WL.nil ?_
  refine QT.n ?_
  refine WC.ret ?_
  cases H
  exact Ends.auto rfl rfl rfl trivial
theorem ref03_bits_f : hasFunc Try.prog 53 Try.f53 := ⟨Try.func53, rfl, by kernel_rfl⟩

/-! ### logjam/logjamref03.shift -/
theorem ref03_shift_0 (a0 : Int) (a1 : Int) (a2 : Int) {r : Int} (H : ref03_shift a0 a1 a2 = some r) : LJ.Spec Try.prog 54 [.d (.int .i64 a0), .d (.int .i64 a1), .d (.int .i64 a2)] [] (.d (.int .i64 r)) [] := by
  refine LJ.Spec.code Try.func54 rfl 33 rfl rfl [] rfl fun w0 F0 S0 B0 => ?_
  unfold ref03_shift at H
  refine WC.seq ?_
  refine WC.region ?_
  refine WL.run 1 tt_ok sg0 rfl rfl trivial ?_
  refine WL.nil ?_
  refine QT.n ?_
  refine WC.seq ?_
  refine WC.region ?_
  refine WL.run 3 tt_ok sg0 rfl rfl trivial ?_
  refine WL.nil ?_
  refine QT.n ?_
  refine WC.seq ?_
  refine WC.seq ?_
  refine WC.region ?_
  refine WL.run 2 tt_ok sg0 rfl rfl trivial ?_
  refine WL.nil ?_
  refine QT.n ?_
  refine WC.cond rfl (fun h1 => ?_) (fun h1 => ?_)
  · replace H := of_t H h1
    refine WC.region ?_
    refine WL.run 3 tt_ok sg0 rfl rfl trivial ?_
    refine WL.nil ?_
    refine QT.n ?_
    refine WC.seq ?_
    refine WC.seq ?_
    refine WC.region ?_
    refine WL.run 1 tt_ok sg0 rfl rfl trivial ?_
    refine WL.nil ?_
    refine QT.n ?_
    refine WC.block ?_
    refine WC.loop (ι := {x : Nat × (Int × Int) // ref03_shift_l3 a0 a2 x.1 x.2 = some r}) (fun x => [(0, .d (.int .i64 a0)), (1, .d (.int .i64 x.1.2.1)), (7, .d (.int .i64 (IntKind.i64.wrap ((Int.tmod a2 32) + 32)))), (8, .d (.int .i64 x.1.2.2))]) (fun x => []) (fun x => x.1.1) ⟨(fuel, (a1, 0)), H⟩ (Less.mk' ⟨rfl, rfl, rfl, rfl, trivial⟩ trivial) fun x => ?_
    obtain ⟨⟨k3, s2⟩, H⟩ := x
    rcases k3 with _ | k3
    · exact of_none H
    rw [ref03_shift_l3] at H
    refine WC.seq ?_
    refine WC.seq ?_
    refine WC.region ?_
    refine WL.run 3 tt_ok sg0 rfl rfl trivial ?_
    refine WL.nil ?_
    refine QT.n ?_
    refine WC.cond rfl (fun h4 => ?_) (fun h4 => ?_)
    · replace H := of_t H h4
      refine WC.skip ?_
      refine QT.n ?_
      refine WC.seq ?_
      refine WC.block ?_
      refine WC.seq ?_
      refine WC.region ?_
      refine WL.run 2 tt_ok sg0 rfl rfl trivial ?_
      refine WL.nil ?_
      refine QT.n ?_
      refine WC.cond rfl (fun h5 => ?_) (fun h5 => ?_)
      · replace H := of_t H h5
        refine WC.region ?_
        refine WL.run 2 tt_ok sg0 rfl rfl trivial ?_
        obtain ⟨x6, hx6, H⟩ := of_bind H
        refine WL.call [] (ref03_Low_0 _ hx6) ref03_Low_f rfl rfl trivial rfl rfl rfl ?_
        refine WL.run 1 tt_ok sg0 rfl rfl trivial ?_
        refine WL.nil ?_
        refine QB.n (QT.n ?_)
        refine WC.region ?_
        refine WL.run 3 tt_ok sg0 rfl rfl trivial ?_
        refine WL.nil ?_
        refine QT.n ?_
        exact ⟨⟨(k3, (x6, IntKind.i64.wrap (s2.2 + 1))), H⟩, Nat.lt_succ_self _, Less.mk' ⟨rfl, rfl, rfl, rfl, trivial⟩ trivial⟩
      replace H := of_f H h5
      refine WC.seq ?_
      refine WC.region ?_
      refine WL.run 2 tt_ok sg0 rfl rfl trivial ?_
      refine WL.nil ?_
      refine QT.n ?_
      refine WC.cond rfl (fun h7 => ?_) (fun h7 => ?_)
      · replace H := of_t H h7
        refine WC.region ?_
        refine WL.run 4 tt_ok sg0 rfl rfl trivial ?_
        refine WL.nil ?_
        refine QB.n (QT.n ?_)
        refine WC.region ?_
        refine WL.run 3 tt_ok sg0 rfl rfl trivial ?_
        refine WL.nil ?_
        refine QT.n ?_
        exact ⟨⟨(k3, (IntKind.i64.wrap (Int.tdiv (IntKind.i64.wrap (s2.1 - 1)) 2), IntKind.i64.wrap (s2.2 + 1))), H⟩, Nat.lt_succ_self _, Less.mk' ⟨rfl, rfl, rfl, rfl, trivial⟩ trivial⟩
      replace H := of_f H h7
      refine WC.region ?_
      refine WL.run 3 tt_ok sg0 rfl rfl trivial ?_
      refine WL.nil ?_
      refine QB.n (QT.n ?_)
      refine WC.region ?_
      refine WL.run 3 tt_ok sg0 rfl rfl trivial ?_
      refine WL.nil ?_
      refine QT.n ?_
      exact ⟨⟨(k3, (IntKind.i64.wrap (Int.tdiv s2.1 2), IntKind.i64.wrap (s2.2 + 1))), H⟩, Nat.lt_succ_self _, Less.mk' ⟨rfl, rfl, rfl, rfl, trivial⟩ trivial⟩
    replace H := of_f H h4
    refine WC.exit ?_
    refine QT.x (QT.x (QB.hit (QT.n ?_)))
    refine WC.seq ?_
    refine WC.region ?_
    refine WL.run 2 tt_ok sg0 rfl rfl trivial ?_
    refine WL.nil ?_
    refine QT.n ?_
    refine WC.ret ?_
    cases H
    exact Ends.auto rfl rfl rfl trivial
  replace H := of_f H h1
  refine WC.skip ?_
  refine QT.n ?_
  refine WC.seq ?_
  refine WC.seq ?_
  refine WC.region ?_
  refine WL.run 1 tt_ok sg0 rfl rfl trivial ?_
  refine WL.nil ?_
  refine QT.n ?_
  refine WC.block ?_
  refine WC.loop (ι := {x : Nat × (Int × Int) // ref03_shift_l9 a0 a2 x.1 x.2 = some r}) (fun x => [(0, .d (.int .i64 a0)), (1, .d (.int .i64 x.1.2.1)), (7, .d (.int .i64 (Int.tmod a2 32))), (8, .d (.int .i64 x.1.2.2))]) (fun x => []) (fun x => x.1.1) ⟨(fuel, (a1, 0)), H⟩ (Less.mk' ⟨rfl, rfl, rfl, rfl, trivial⟩ trivial) fun x => ?_
  obtain ⟨⟨k9, s8⟩, H⟩ := x
  rcases k9 with _ | k9
  · exact of_none H
  rw [ref03_shift_l9] at H
  refine WC.seq ?_
  refine WC.seq ?_
  refine WC.region ?_
  refine WL.run 3 tt_ok sg0 rfl rfl trivial ?_
  refine WL.nil ?_
  refine QT.n ?_
  refine WC.cond rfl (fun h10 => ?_) (fun h10 => ?_)
  · replace H := of_t H h10
    refine WC.skip ?_
    refine QT.n ?_
    refine WC.seq ?_
    refine WC.block ?_
    refine WC.seq ?_
    refine WC.region ?_
    refine WL.run 2 tt_ok sg0 rfl rfl trivial ?_
    refine WL.nil ?_
    refine QT.n ?_
    refine WC.cond rfl (fun h11 => ?_) (fun h11 => ?_)
    · replace H := of_t H h11
      refine WC.region ?_
      refine WL.run 2 tt_ok sg0 rfl rfl trivial ?_
      obtain ⟨x12, hx12, H⟩ := of_bind H
      refine WL.call [] (ref03_Low_0 _ hx12) ref03_Low_f rfl rfl trivial rfl rfl rfl ?_
      refine WL.run 1 tt_ok sg0 rfl rfl trivial ?_
      refine WL.nil ?_
      refine QB.n (QT.n ?_)
      refine WC.region ?_
      refine WL.run 3 tt_ok sg0 rfl rfl trivial ?_
      refine WL.nil ?_
      refine QT.n ?_
      exact ⟨⟨(k9, (x12, IntKind.i64.wrap (s8.2 + 1))), H⟩, Nat.lt_succ_self _, Less.mk' ⟨rfl, rfl, rfl, rfl, trivial⟩ trivial⟩
    replace H := of_f H h11
    refine WC.seq ?_
    refine WC.region ?_
    refine WL.run 2 tt_ok sg0 rfl rfl trivial ?_
    refine WL.nil ?_
    refine QT.n ?_
    refine WC.cond rfl (fun h13 => ?_) (fun h13 => ?_)
    · replace H := of_t H h13
      refine WC.region ?_
      refine WL.run 4 tt_ok sg0 rfl rfl trivial ?_
      refine WL.nil ?_
      refine QB.n (QT.n ?_)
      refine WC.region ?_
      refine WL.run 3 tt_ok sg0 rfl rfl trivial ?_
      refine WL.nil ?_
      refine QT.n ?_
      exact ⟨⟨(k9, (IntKind.i64.wrap (Int.tdiv (IntKind.i64.wrap (s8.1 - 1)) 2), IntKind.i64.wrap (s8.2 + 1))), H⟩, Nat.lt_succ_self _, Less.mk' ⟨rfl, rfl, rfl, rfl, trivial⟩ trivial⟩
    replace H := of_f H h13
    refine WC.region ?_
    refine WL.run 3 tt_ok sg0 rfl rfl trivial ?_
    refine WL.nil ?_
    refine QB.n (QT.n ?_)
    refine WC.region ?_
    refine WL.run 3 tt_ok sg0 rfl rfl trivial ?_
    refine WL.nil ?_
    refine QT.n ?_
    exact ⟨⟨(k9, (IntKind.i64.wrap (Int.tdiv s8.1 2), IntKind.i64.wrap (s8.2 + 1))), H⟩, Nat.lt_succ_self _, Less.mk' ⟨rfl, rfl, rfl, rfl, trivial⟩ trivial⟩
  replace H := of_f H h10
  refine WC.exit ?_
  refine QT.x (QT.x (QB.hit (QT.n ?_)))
  refine WC.seq ?_
  refine WC.region ?_
  refine WL.run 2 tt_ok sg0 rfl rfl trivial ?_
  refine WL.nil ?_
  refine QT.n ?_
  refine WC.ret ?_
  cases H
  exact Ends.auto rfl rfl rfl trivial
theorem ref03_shift_f : hasFunc Try.prog 54 Try.f54 := ⟨Try.func54, rfl, by kernel_rfl⟩

end Go.Proofs.Ytcnfbifekdmacaa.W
