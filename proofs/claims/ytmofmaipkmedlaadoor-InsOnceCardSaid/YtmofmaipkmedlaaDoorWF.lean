/- Each Go function comes to what its plain function gives, where that gives something. -/
import Derived.Test.YtmofmaipkmedlaaDoorPF
import Derived.Test.YtmofmaipkmedlaaDoorProg
namespace Go.Proofs.YtmofmaipkmedlaaDoor.W
open Go Go.RowKit LJ
set_option linter.unusedVariables false
set_option linter.unusedSimpArgs false
set_option maxRecDepth 10000
/-- The types that the walks meet. -/
def tt : List (Nat × TK) := [(2, .int .i64), (3, .int .i64), (4, .bool), (5, .int .u8), (9, .str), (21, .int .i32), (23, .struct 3 [(0, 1, true), (1, 1, true), (2, 1, true)] [.int .i64 0, .int .i64 0, .int .i64 0]), (25, .int .i64), (40, .slice 3 1), (42, .ptr), (43, .slice 5 1), (45, .struct 1 [(0, 1, true)] [.nils]), (46, .arr 2 2 3 1), (49, .int .u64), (53, .ptr), (59, .struct 3 [(0, 1, true), (1, 1, true), (2, 1, true)] [.str .empty, .int .i64 0, .int .i64 0]), (62, .slice 9 1), (65, .int .u64), (67, .struct 3 [(0, 1, true), (1, 1, true), (2, 1, true)] [.str .empty, .int .i64 0, .int .i64 0]), (73, .arr 256 256 5 1), (75, .one), (80, .int .u32), (82, .ptr), (83, .slice 89 3), (84, .slice 92 3), (86, .struct 3 [(0, 1, true), (1, 1, true), (2, 1, true)] [.nils, .nils, .int .i64 0]), (87, .int .u16), (89, .struct 3 [(0, 1, true), (1, 1, true), (2, 1, true)] [.int .u16 0, .int .u16 0, .int .u16 0]), (92, .struct 3 [(0, 1, true), (1, 1, true), (2, 1, true)] [.int .u32 0, .int .u32 0, .int .u32 0]), (94, .ptr), (95, .ptr)]
theorem tt_ok : ttOK Tryd.prog tt = true := by kernel_rfl
/-- Elements of the slices that are appended to: cells, bytes. -/
def et : List (Nat × Nat × Nat) := [(3, 1, 8), (5, 1, 1), (9, 1, 16), (89, 3, 6), (92, 3, 12)]
theorem et_ok : etOK Tryd.prog et = true := by kernel_rfl
theorem eb_ok : byteB Tryd.prog 5 = true := by kernel_rfl
def sg0 : List (PSig Tryd.prog) := []
def eg0 : List (ESig Tryd.prog) := []
/-! ### logjam/logjamref06.Known -/
theorem ref06_Known_0 (a0 : Int) {r : Bool} (H : ref06_Known a0 = some r) : LJ.Spec Tryd.prog 14 [.d (.int .i64 a0)] [] (.d (.bool r)) [] := by
  refine LJ.Spec.code Tryd.func14 rfl 9 rfl rfl [] rfl fun w0 F0 S0 B0 => ?_
  unfold ref06_Known at H
  refine WC.seq ?_
  refine WC.region ?_
  refine WL.run 1 tt_ok sg0 rfl rfl trivial ?_
  refine WL.nil ?_
  refine QT.n ?_
  refine WC.seq ?_
  refine WC.region ?_
  refine WL.run 3 tt_ok sg0 rfl rfl trivial ?_
  refine WL.sect 2 2 true tt_ok sg0 rfl rfl (fun _ => trivial) ?_
  refine WL.run 2 tt_ok sg0 rfl rfl ⟨by first | exact id | exact fun h => by rw [h]; rfl | simp_all, trivial⟩ ?_
  refine WL.nil ?_
  refine QT.n ?_
  refine WC.ret ?_
  cases H
  exact Ends.auto rfl rfl rfl trivial
theorem ref06_Known_f : hasFunc Tryd.prog 14 Tryd.f14 := ⟨Tryd.func14, rfl, by kernel_rfl⟩

/-! ### logjam/logjamref06.Forms -/
theorem ref06_Forms_0  {r : List ByteArray} (H : ref06_Forms = some r) : LJ.Spec Tryd.prog 35 [] [] (.d (slT enc_str r)) [] := by
  refine LJ.Spec.code Tryd.func35 rfl 2 rfl rfl [] rfl fun w0 F0 S0 B0 => ?_
  unfold ref06_Forms at H
  refine WC.seq ?_
  refine WC.region ?_
  refine WL.run 1 tt_ok sg0 rfl rfl trivial ?_
  refine WL.nil ?_
  refine QT.n ?_
  refine WC.seq ?_
  refine WC.region ?_
  refine WL.eff 101 tt_ok et_ok eg0 rfl rfl rfl trivial ?_
  refine WL.freezeT 101 enc_str ([(⟨#[110]⟩ : ByteArray), (⟨#[107]⟩ : ByteArray), (⟨#[107]⟩ : ByteArray), ByteArray.empty, ByteArray.empty, ByteArray.empty, ByteArray.empty, ByteArray.empty, ByteArray.empty, ByteArray.empty, ByteArray.empty, ByteArray.empty, ByteArray.empty, ByteArray.empty, ByteArray.empty, ByteArray.empty, ByteArray.empty, ByteArray.empty, (⟨#[116]⟩ : ByteArray), (⟨#[116]⟩ : ByteArray), (⟨#[102]⟩ : ByteArray), ByteArray.empty, ByteArray.empty, ByteArray.empty, ByteArray.empty, ByteArray.empty, (⟨#[119]⟩ : ByteArray), (⟨#[119]⟩ : ByteArray), ByteArray.empty, (⟨#[117]⟩ : ByteArray), (⟨#[115]⟩ : ByteArray), (⟨#[112]⟩ : ByteArray), (⟨#[99, 109]⟩ : ByteArray), (⟨#[99, 109]⟩ : ByteArray), (⟨#[99]⟩ : ByteArray), (⟨#[99]⟩ : ByteArray), (⟨#[98]⟩ : ByteArray), (⟨#[98]⟩ : ByteArray), (⟨#[98]⟩ : ByteArray), (⟨#[98]⟩ : ByteArray), (⟨#[102]⟩ : ByteArray), (⟨#[106, 106]⟩ : ByteArray), (⟨#[106, 106]⟩ : ByteArray), ByteArray.empty, ByteArray.empty, (⟨#[118]⟩ : ByteArray), (⟨#[118]⟩ : ByteArray), ByteArray.empty, ByteArray.empty, (⟨#[113]⟩ : ByteArray), (⟨#[109]⟩ : ByteArray), (⟨#[109]⟩ : ByteArray)] : List ByteArray) rfl rfl rfl rfl ?_
  refine WL.run 1 tt_ok sg0 rfl rfl trivial ?_
  refine WL.nil ?_
  refine QT.n ?_
  refine WC.ret ?_
  cases H
  exact Ends.auto rfl rfl rfl trivial
theorem ref06_Forms_f : hasFunc Tryd.prog 35 Tryd.f35 := ⟨Tryd.func35, rfl, by kernel_rfl⟩

/-! ### logjam/logjamref06.Form -/
theorem ref06_Form_0 (a0 : Int) {r : ByteArray} (H : ref06_Form a0 = some r) : LJ.Spec Tryd.prog 15 [.d (.int .i64 a0)] [] (.d (.str r)) [] := by
  refine LJ.Spec.code Tryd.func15 rfl 10 rfl rfl [] rfl fun w0 F0 S0 B0 => ?_
  unfold ref06_Form at H
  refine WC.seq ?_
  refine WC.region ?_
  refine WL.run 1 tt_ok sg0 rfl rfl trivial ?_
  refine WL.nil ?_
  refine QT.n ?_
  refine WC.seq ?_
  refine WC.seq ?_
  refine WC.region ?_
  refine WL.run 1 tt_ok sg0 rfl rfl trivial ?_
  obtain ⟨x1, hx1, H⟩ := of_bind H
  refine WL.call [] (ref06_Known_0 _ hx1) ref06_Known_f rfl rfl trivial rfl rfl rfl ?_
  refine WL.run 1 tt_ok sg0 rfl rfl trivial ?_
  refine WL.nil ?_
  refine QT.n ?_
  refine WC.cond rfl (fun h2 => ?_) (fun h2 => ?_)
  · replace H := of_t H h2
    refine WC.seq ?_
    refine WC.region ?_
    refine WL.run 1 tt_ok sg0 rfl rfl trivial ?_
    refine WL.nil ?_
    refine QT.n ?_
    refine WC.ret ?_
    refine QT.r ?_
    cases H
    exact Ends.auto rfl rfl rfl trivial
  replace H := of_f H h2
  refine WC.skip ?_
  refine QT.n ?_
  refine WC.seq ?_
  refine WC.region ?_
  obtain ⟨x3, hx3, H⟩ := of_bind H
  refine WL.call [] (ref06_Forms_0 hx3) ref06_Forms_f rfl rfl trivial rfl rfl rfl ?_
  obtain ⟨g4, H⟩ := of_need H
  refine WL.run 4 tt_ok sg0 rfl rfl ⟨⟨(nIn_ok g4).1, (nIn_ok g4).2, rfl⟩, trivial⟩ ?_
  refine WL.nil ?_
  refine QT.n ?_
  refine WC.ret ?_
  cases H
  exact Ends.auto rfl rfl rfl trivial
theorem ref06_Form_f : hasFunc Tryd.prog 15 Tryd.f15 := ⟨Tryd.func15, rfl, by kernel_rfl⟩

/-! ### logjam/logjamref03.Fits -/
theorem ref03_Fits_0 (a0 : Int) {r : Bool} (H : ref03_Fits a0 = some r) : LJ.Spec Tryd.prog 16 [.d (.int .i64 a0)] [] (.d (.bool r)) [] := by
  refine LJ.Spec.code Tryd.func16 rfl 9 rfl rfl [] rfl fun w0 F0 S0 B0 => ?_
  unfold ref03_Fits at H
  refine WC.seq ?_
  refine WC.region ?_
  refine WL.run 1 tt_ok sg0 rfl rfl trivial ?_
  refine WL.nil ?_
  refine QT.n ?_
  refine WC.seq ?_
  refine WC.region ?_
  refine WL.run 3 tt_ok sg0 rfl rfl trivial ?_
  refine WL.sect 2 2 true tt_ok sg0 rfl rfl (fun _ => trivial) ?_
  refine WL.run 2 tt_ok sg0 rfl rfl ⟨by first | exact id | exact fun h => by rw [h]; rfl | simp_all, trivial⟩ ?_
  refine WL.nil ?_
  refine QT.n ?_
  refine WC.ret ?_
  cases H
  exact Ends.auto rfl rfl rfl trivial
theorem ref03_Fits_f : hasFunc Tryd.prog 16 Tryd.f16 := ⟨Tryd.func16, rfl, by kernel_rfl⟩

/-! ### logjam/logjamref07.least -/
theorem ref07_least_0 (a0 : Int) {r : Int} (H : ref07_least a0 = some r) : LJ.Spec Tryd.prog 17 [.d (.int .u8 a0)] [] (.d (.int .i64 r)) [] := by
  refine LJ.Spec.code Tryd.func17 rfl 5 rfl rfl [] rfl fun w0 F0 S0 B0 => ?_
  unfold ref07_least at H
  refine WC.seq ?_
  refine WC.region ?_
  refine WL.run 1 tt_ok sg0 rfl rfl trivial ?_
  refine WL.nil ?_
  refine QT.n ?_
  refine WC.seq ?_
  refine WC.seq ?_
  refine WC.region ?_
  refine WL.run 2 tt_ok sg0 rfl rfl trivial ?_
  refine WL.nil ?_
  refine QT.n ?_
  refine WC.cond rfl (fun h1 => ?_) (fun h1 => ?_)
  · replace H := of_t H h1
    refine WC.seq ?_
    refine WC.region ?_
    refine WL.run 1 tt_ok sg0 rfl rfl trivial ?_
    refine WL.nil ?_
    refine QT.n ?_
    refine WC.ret ?_
    refine QT.r ?_
    cases H
    exact Ends.auto rfl rfl rfl trivial
  replace H := of_f H h1
  refine WC.skip ?_
  refine QT.n ?_
  refine WC.seq ?_
  refine WC.region ?_
  refine WL.run 1 tt_ok sg0 rfl rfl trivial ?_
  refine WL.nil ?_
  refine QT.n ?_
  refine WC.ret ?_
  cases H
  exact Ends.auto rfl rfl rfl trivial
theorem ref07_least_f : hasFunc Tryd.prog 17 Tryd.f17 := ⟨Tryd.func17, rfl, by kernel_rfl⟩

/-! ### logjam/logjamref07.most -/
theorem ref07_most_0 (a0 : Int) {r : Int} (H : ref07_most a0 = some r) : LJ.Spec Tryd.prog 18 [.d (.int .u8 a0)] [] (.d (.int .i64 r)) [] := by
  refine LJ.Spec.code Tryd.func18 rfl 12 rfl rfl [] rfl fun w0 F0 S0 B0 => ?_
  unfold ref07_most at H
  refine WC.seq ?_
  refine WC.region ?_
  refine WL.run 1 tt_ok sg0 rfl rfl trivial ?_
  refine WL.nil ?_
  refine QT.n ?_
  refine WC.seq ?_
  refine WC.seq ?_
  refine WC.region ?_
  refine WL.run 1 tt_ok sg0 rfl rfl trivial ?_
  refine WL.nil ?_
  refine QT.n ?_
  refine WC.block ?_
  refine WC.seq ?_
  refine WC.region ?_
  refine WL.run 2 tt_ok sg0 rfl rfl trivial ?_
  refine WL.nil ?_
  refine QT.n ?_
  refine WC.cond rfl (fun h1 => ?_) (fun h1 => ?_)
  · replace H := of_t H h1
    refine WC.seq ?_
    refine WC.region ?_
    refine WL.run 1 tt_ok sg0 rfl rfl trivial ?_
    refine WL.nil ?_
    refine QT.n ?_
    refine WC.ret ?_
    refine QB.r (QT.r ?_)
    cases H
    exact Ends.auto rfl rfl rfl trivial
  replace H := of_f H h1
  refine WC.seq ?_
  refine WC.region ?_
  refine WL.run 2 tt_ok sg0 rfl rfl trivial ?_
  refine WL.nil ?_
  refine QT.n ?_
  refine WC.cond rfl (fun h2 => ?_) (fun h2 => ?_)
  · replace H := of_t H h2
    refine WC.seq ?_
    refine WC.region ?_
    refine WL.run 1 tt_ok sg0 rfl rfl trivial ?_
    refine WL.nil ?_
    refine QT.n ?_
    refine WC.ret ?_
    refine QB.r (QT.r ?_)
    cases H
    exact Ends.auto rfl rfl rfl trivial
  replace H := of_f H h2
  refine WC.seq ?_
  refine WC.region ?_
  refine WL.run 2 tt_ok sg0 rfl rfl trivial ?_
  refine WL.nil ?_
  refine QT.n ?_
  refine WC.cond rfl (fun h3 => ?_) (fun h3 => ?_)
  · replace H := of_t H h3
    refine WC.seq ?_
    refine WC.region ?_
    refine WL.run 1 tt_ok sg0 rfl rfl trivial ?_
    refine WL.nil ?_
    refine QT.n ?_
    refine WC.ret ?_
    refine QB.r (QT.r ?_)
    cases H
    exact Ends.auto rfl rfl rfl trivial
  replace H := of_f H h3
  refine WC.seq ?_
  refine WC.region ?_
  refine WL.run 2 tt_ok sg0 rfl rfl trivial ?_
  refine WL.nil ?_
  refine QT.n ?_
  refine WC.cond rfl (fun h4 => ?_) (fun h4 => ?_)
  · replace H := of_t H h4
    refine WC.seq ?_
    refine WC.region ?_
    refine WL.run 1 tt_ok sg0 rfl rfl trivial ?_
    refine WL.nil ?_
    refine QT.n ?_
    refine WC.ret ?_
    refine QB.r (QT.r ?_)
    cases H
    exact Ends.auto rfl rfl rfl trivial
  replace H := of_f H h4
  refine WC.skip ?_
  refine QB.n (QT.n ?_)
  refine WC.seq ?_
  refine WC.region ?_
  refine WL.run 1 tt_ok sg0 rfl rfl trivial ?_
  refine WL.nil ?_
  refine QT.n ?_
  refine WC.ret ?_
  cases H
  exact Ends.auto rfl rfl rfl trivial
theorem ref07_most_f : hasFunc Tryd.prog 18 Tryd.f18 := ⟨Tryd.func18, rfl, by kernel_rfl⟩

/-! ### logjam/logjamref07.Check -/
theorem ref07_Check_0 (a0 : T_api_Ins) {r : Int} (H : ref07_Check a0 = some r) : LJ.Spec Tryd.prog 7 [.d (.agg [.int .i64 a0.Op, .int .i64 a0.A, .int .i64 a0.B])] [] (.d (.int .i64 r)) [] := by
  refine LJ.Spec.code Tryd.func7 rfl 85 rfl rfl [] rfl fun w0 F0 S0 B0 => ?_
  unfold ref07_Check at H
  refine WC.seq ?_
  refine WC.region ?_
  refine WL.eff 101 tt_ok et_ok eg0 rfl rfl rfl trivial ?_
  refine WL.run 1 tt_ok sg0 rfl rfl trivial ?_
  refine WL.nil ?_
  refine QT.n ?_
  refine WC.seq ?_
  refine WC.seq ?_
  refine WC.region ?_
  refine WL.run 2 tt_ok sg0 rfl rfl trivial ?_
  obtain ⟨x1, hx1, H⟩ := of_bind H
  refine WL.call [] (ref06_Known_0 _ hx1) ref06_Known_f rfl rfl trivial rfl rfl rfl ?_
  refine WL.run 1 tt_ok sg0 rfl rfl trivial ?_
  refine WL.nil ?_
  refine QT.n ?_
  refine WC.cond rfl (fun h2 => ?_) (fun h2 => ?_)
  · replace H := of_t H h2
    refine WC.seq ?_
    refine WC.region ?_
    refine WL.run 1 tt_ok sg0 rfl rfl trivial ?_
    refine WL.nil ?_
    refine QT.n ?_
    refine WC.ret ?_
    refine QT.r ?_
    cases H
    exact Ends.auto rfl rfl rfl trivial
  replace H := of_f H h2
  refine WC.skip ?_
  refine QT.n ?_
  refine WC.seq ?_
  obtain ⟨x3_2_1, hx3_2_1, H⟩ := of_bind H
  refine WC.heldF [(1, .ptr 101 0), (3, .d (.str x3_2_1)), (4, .d (slT enc_i64 ([a0.A, a0.B] : List Int)))] [(101, .box 23 [.d (.int .i64 a0.Op), .d (.int .i64 a0.A), .d (.int .i64 a0.B)])] (.one 0 true (.one 1 true (.one 3 true (.one 4 true (.one 5 true (.one 6 true (.fork (.one 2 false (.one 8 true (.one 7 false (.one 9 true .done)))) (.one 7 false (.one 2 false (.one 8 true (.one 9 true .done))))))))))) [101] [101] rfl (by kernel_rfl) rfl (by kernel_rfl) rfl rfl (fun _ h => h) rfl rfl rfl (fun FK NK wK K => ?_) ?_
  · refine WH.run 6 tt_ok rfl rfl rfl rfl trivial ?_
    refine WH.fork ?_ ?_
    · refine WH.call [] rfl (ref06_Form_0 _ hx3_2_1) ref06_Form_f rfl rfl trivial rfl rfl rfl rfl rfl ?_
      refine WH.run 1 tt_ok rfl rfl rfl rfl trivial ?_
      refine WH.eff 118 tt_ok et_ok rfl rfl rfl rfl trivial rfl rfl ?_
      refine WH.freezeT 118 enc_i64 ([a0.A, a0.B] : List Int) rfl rfl rfl rfl ?_
      refine WH.mv rfl rfl rfl rfl rfl rfl rfl rfl rfl ?_
      exact WH.nilF rfl (LessW.mk' ⟨AVle.of rfl, AVle.of rfl, AVle.of rfl, trivial⟩ ⟨rfl, trivial⟩)
    · refine WH.eff 118 tt_ok et_ok rfl rfl rfl rfl trivial rfl rfl ?_
      refine WH.freezeT 118 enc_i64 ([a0.A, a0.B] : List Int) rfl rfl rfl rfl ?_
      refine WH.call [] rfl (ref06_Form_0 _ hx3_2_1) ref06_Form_f rfl rfl trivial rfl rfl rfl rfl rfl ?_
      refine WH.run 1 tt_ok rfl rfl rfl rfl trivial ?_
      refine WH.mv rfl rfl rfl rfl rfl rfl rfl rfl rfl ?_
      exact WH.nilF rfl (LessW.mk' ⟨AVle.of rfl, AVle.of rfl, AVle.of rfl, trivial⟩ ⟨rfl, trivial⟩)
  · refine QT.n ?_
    refine WC.seq ?_
    refine WC.seq ?_
    refine WC.region ?_
    refine WL.run 1 tt_ok sg0 rfl rfl trivial ?_
    refine WL.nil ?_
    refine QT.n ?_
    refine WC.block ?_
    refine WC.loop (ι := {x : Nat × Int // ref07_Check_l4 a0 x3_2_1 x.1 x.2 = some r}) (fun x => [(1, .ptr 101 0), (3, .d (.str x3_2_1)), (4, .d (slT enc_i64 ([a0.A, a0.B] : List Int))), (5, .d (.int .i64 x.1.2))]) (fun x => [(101, .box 23 [.d (.int .i64 a0.Op), .d (.int .i64 a0.A), .d (.int .i64 a0.B)])]) (fun x => x.1.1) ⟨(fuel, 0), H⟩ (Less.mk' ⟨rfl, rfl, rfl, rfl, trivial⟩ ⟨rfl, trivial⟩) fun x => ?_
    obtain ⟨⟨k4, s3⟩, H⟩ := x
    rcases k4 with _ | k4
    · exact of_none H
    rw [ref07_Check_l4] at H
    refine WC.seq ?_
    refine WC.seq ?_
    refine WC.region ?_
    refine WL.run 4 tt_ok sg0 rfl rfl trivial ?_
    refine WL.nil ?_
    refine QT.n ?_
    refine WC.cond rfl (fun h5 => ?_) (fun h5 => ?_)
    · replace H := of_t H h5
      refine WC.skip ?_
      refine QT.n ?_
      refine WC.seq ?_
      refine WC.block ?_
      refine WC.seq ?_
      refine WC.heldP (.one 0 true (.one 1 true (.one 2 true (.one 3 true (.one 4 true (.one 5 true (.one 6 true (.one 7 true (.one 8 true (.one 9 false (.one 10 true (.one 11 true (.one 12 true (.one 13 true (.one 14 true (.one 15 true (.one 16 true (.one 17 true (.one 18 true (.one 19 true (.one 20 true (.one 21 true (.one 22 true (.one 23 true (.one 24 true (.one 25 false (.one 26 true (.one 27 true (.one 28 true (.one 29 true (.one 30 true (.one 31 true (.one 32 true (.one 33 true (.one 34 true (.one 35 false (.one 36 true (.one 37 true (.one 38 true (.one 39 true .done)))))))))))))))))))))))))))))))))))))))) [101] [101] rfl (by kernel_rfl) rfl (by kernel_rfl) rfl rfl (fun _ h => h) rfl rfl rfl (fun _ _ _ h => h) fun FK NK wK K => ?_
      obtain ⟨g6, H⟩ := of_need H
      refine WH.run 5 tt_ok rfl rfl rfl rfl ⟨(nIn_ok g6), trivial⟩ ?_
      refine WH.split (g := 29) rfl (fun h7 => ?_) (fun h7 => ?_)
      · replace H := of_t H h7
        obtain ⟨g8, H⟩ := of_need H
        refine WH.grun 4 4 true 29 tt_ok rfl rfl rfl rfl rfl rfl ⟨⟨(nIn_ok g8).1, (nIn_ok g8).2, rfl⟩, trivial⟩ ?_
        obtain ⟨x9, hx9, H⟩ := of_bind H
        refine WH.gcall [] rfl (ref03_Fits_0 _ hx9) ref03_Fits_f rfl rfl trivial rfl rfl rfl rfl rfl rfl rfl rfl ?_
        refine WH.grun 1 4 true 29 tt_ok rfl rfl rfl rfl rfl rfl trivial ?_
        refine WH.pick1 rfl rfl rfl rfl rfl rfl rfl ?_
        refine WH.run 1 tt_ok rfl rfl rfl rfl trivial ?_
        refine WH.split (g := 37) rfl (fun h10 => ?_) (fun h10 => ?_)
        · replace H := of_t H h10
          refine WH.gskip rfl rfl rfl rfl rfl rfl rfl ?_
          refine WH.gskip rfl rfl rfl rfl rfl rfl rfl ?_
          refine WH.gskip rfl rfl rfl rfl rfl rfl rfl ?_
          refine WH.gskip rfl rfl rfl rfl rfl rfl rfl ?_
          refine WH.gskip rfl rfl rfl rfl rfl rfl rfl ?_
          refine WH.gskip rfl rfl rfl rfl rfl rfl rfl ?_
          refine WH.gskip rfl rfl rfl rfl rfl rfl rfl ?_
          refine WH.gskip rfl rfl rfl rfl rfl rfl rfl ?_
          refine WH.gskip rfl rfl rfl rfl rfl rfl rfl ?_
          refine WH.gskip rfl rfl rfl rfl rfl rfl rfl ?_
          refine WH.gskip rfl rfl rfl rfl rfl rfl rfl ?_
          refine WH.gskip rfl rfl rfl rfl rfl rfl rfl ?_
          refine WH.gskip rfl rfl rfl rfl rfl rfl rfl ?_
          refine WH.gskip rfl rfl rfl rfl rfl rfl rfl ?_
          refine WH.gskip rfl rfl rfl rfl rfl rfl rfl ?_
          refine WH.gskip rfl rfl rfl rfl rfl rfl rfl ?_
          refine WH.gskip rfl rfl rfl rfl rfl rfl rfl ?_
          refine WH.gskip rfl rfl rfl rfl rfl rfl rfl ?_
          refine WH.gskip rfl rfl rfl rfl rfl rfl rfl ?_
          refine WH.gskip rfl rfl rfl rfl rfl rfl rfl ?_
          refine WH.gskip rfl rfl rfl rfl rfl rfl rfl ?_
          refine WH.gskip rfl rfl rfl rfl rfl rfl rfl ?_
          refine WH.gskip rfl rfl rfl rfl rfl rfl rfl ?_
          refine WH.gskip rfl rfl rfl rfl rfl rfl rfl ?_
          refine WH.gskip rfl rfl rfl rfl rfl rfl rfl ?_
          refine WH.gskip rfl rfl rfl rfl rfl rfl rfl ?_
          refine WH.pick1 rfl rfl rfl rfl rfl rfl rfl ?_
          refine WH.nil rfl ?_
          refine QT.n ?_
          refine WC.cond rfl (fun h => ?_) (fun h => absurd h (by decide))
          refine WC.seq ?_
          refine WC.region ?_
          refine WL.run 1 tt_ok sg0 rfl rfl trivial ?_
          refine WL.nil ?_
          refine QT.n ?_
          refine WC.ret ?_
          refine QB.r (QT.r (QT.r (QB.r (QT.r ?_))))
          cases H
          exact Ends.auto rfl rfl rfl trivial
        · replace H := of_f H h10
          obtain ⟨g11, H⟩ := of_need H
          refine WH.grun 5 12 false 37 tt_ok rfl rfl rfl rfl rfl rfl ⟨(nIn_ok g11), trivial⟩ ?_
          refine WH.split (g := 42) rfl (fun h12 => ?_) (fun h12 => ?_)
          · replace H := of_t H h12
            obtain ⟨g13, H⟩ := of_need H
            obtain ⟨g14, H⟩ := of_need H
            refine WH.grun 7 17 true 42 tt_ok rfl rfl rfl rfl rfl rfl ⟨⟨(nIn_ok g13).1, (nIn_ok g13).2, rfl⟩, (nIn_ok g14), trivial⟩ ?_
            obtain ⟨x15, hx15, H⟩ := of_bind H
            refine WH.gcall [] rfl (ref07_least_0 _ hx15) ref07_least_f rfl rfl trivial rfl rfl rfl rfl rfl rfl rfl rfl ?_
            refine WH.grun 2 17 true 42 tt_ok rfl rfl rfl rfl rfl rfl trivial ?_
            refine WH.split (g := 52) rfl (fun h16 => ?_) (fun h16 => ?_)
            · replace H := of_t H h16
              refine WH.gskip rfl rfl rfl rfl rfl rfl rfl ?_
              refine WH.gskip rfl rfl rfl rfl rfl rfl rfl ?_
              refine WH.gskip rfl rfl rfl rfl rfl rfl rfl ?_
              refine WH.gskip rfl rfl rfl rfl rfl rfl rfl ?_
              refine WH.gskip rfl rfl rfl rfl rfl rfl rfl ?_
              refine WH.gskip rfl rfl rfl rfl rfl rfl rfl ?_
              refine WH.gskip rfl rfl rfl rfl rfl rfl rfl ?_
              refine WH.gskip rfl rfl rfl rfl rfl rfl rfl ?_
              refine WH.gskip rfl rfl rfl rfl rfl rfl rfl ?_
              refine WH.gpick1 rfl rfl rfl rfl rfl rfl rfl rfl rfl rfl ?_
              refine WH.gpick1 rfl rfl rfl rfl rfl rfl rfl rfl rfl rfl ?_
              refine WH.pick1 rfl rfl rfl rfl rfl rfl rfl ?_
              refine WH.nil rfl ?_
              refine QT.n ?_
              refine WC.cond rfl (fun h => ?_) (fun h => absurd h (by decide))
              refine WC.seq ?_
              refine WC.region ?_
              refine WL.run 1 tt_ok sg0 rfl rfl trivial ?_
              refine WL.nil ?_
              refine QT.n ?_
              refine WC.ret ?_
              refine QB.r (QT.r (QT.r (QB.r (QT.r ?_))))
              cases H
              exact Ends.auto rfl rfl rfl trivial
            · replace H := of_f H h16
              obtain ⟨g17, H⟩ := of_need H
              obtain ⟨g18, H⟩ := of_need H
              refine WH.grun 7 27 false 52 tt_ok rfl rfl rfl rfl rfl rfl ⟨⟨(nIn_ok g17).1, (nIn_ok g17).2, rfl⟩, (nIn_ok g18), trivial⟩ ?_
              obtain ⟨x19, hx19, H⟩ := of_bind H
              refine WH.gcall [] rfl (ref07_most_0 _ hx19) ref07_most_f rfl rfl trivial rfl rfl rfl rfl rfl rfl rfl rfl ?_
              refine WH.grun 1 27 false 52 tt_ok rfl rfl rfl rfl rfl rfl trivial ?_
              refine WH.gpick1 rfl rfl rfl rfl rfl rfl rfl rfl rfl rfl ?_
              refine WH.gpick1 rfl rfl rfl rfl rfl rfl rfl rfl rfl rfl ?_
              refine WH.pick1 rfl rfl rfl rfl rfl rfl rfl ?_
              refine WH.nil rfl ?_
              refine QT.n ?_
              refine WC.cond rfl (fun h20 => ?_) (fun h20 => ?_)
              · replace H := of_t H h20
                refine WC.seq ?_
                refine WC.region ?_
                refine WL.run 1 tt_ok sg0 rfl rfl trivial ?_
                refine WL.nil ?_
                refine QT.n ?_
                refine WC.ret ?_
                refine QB.r (QT.r (QT.r (QB.r (QT.r ?_))))
                cases H
                exact Ends.auto rfl rfl rfl trivial
              replace H := of_f H h20
              refine WC.skip ?_
              refine QB.n (QT.n ?_)
              refine WC.region ?_
              refine WL.run 3 tt_ok sg0 rfl rfl trivial ?_
              refine WL.nil ?_
              refine QT.n ?_
              exact ⟨⟨(k4, IntKind.i64.wrap (s3 + 1)), H⟩, Nat.lt_succ_self _, Less.mk' ⟨rfl, rfl, rfl, rfl, trivial⟩ ⟨rfl, trivial⟩⟩
          · replace H := of_f H h12
            refine WH.gskip rfl rfl rfl rfl rfl rfl rfl ?_
            refine WH.gskip rfl rfl rfl rfl rfl rfl rfl ?_
            refine WH.gskip rfl rfl rfl rfl rfl rfl rfl ?_
            refine WH.gskip rfl rfl rfl rfl rfl rfl rfl ?_
            refine WH.gskip rfl rfl rfl rfl rfl rfl rfl ?_
            refine WH.gskip rfl rfl rfl rfl rfl rfl rfl ?_
            refine WH.gskip rfl rfl rfl rfl rfl rfl rfl ?_
            refine WH.gskip rfl rfl rfl rfl rfl rfl rfl ?_
            refine WH.gskip rfl rfl rfl rfl rfl rfl rfl ?_
            refine WH.gskip rfl rfl rfl rfl rfl rfl rfl ?_
            refine WH.gskip rfl rfl rfl rfl rfl rfl rfl ?_
            refine WH.gskip rfl rfl rfl rfl rfl rfl rfl ?_
            refine WH.gskip rfl rfl rfl rfl rfl rfl rfl ?_
            refine WH.gskip rfl rfl rfl rfl rfl rfl rfl ?_
            refine WH.gskip rfl rfl rfl rfl rfl rfl rfl ?_
            refine WH.gskip rfl rfl rfl rfl rfl rfl rfl ?_
            refine WH.gskip rfl rfl rfl rfl rfl rfl rfl ?_
            refine WH.gskip rfl rfl rfl rfl rfl rfl rfl ?_
            refine WH.gskip rfl rfl rfl rfl rfl rfl rfl ?_
            refine WH.gskip rfl rfl rfl rfl rfl rfl rfl ?_
            refine WH.gpick1 rfl rfl rfl rfl rfl rfl rfl rfl rfl rfl ?_
            refine WH.pick1 rfl rfl rfl rfl rfl rfl rfl ?_
            refine WH.nil rfl ?_
            refine QT.n ?_
            refine WC.cond rfl (fun h => absurd h (by decide)) (fun h => ?_)
            refine WC.skip ?_
            refine QB.n (QT.n ?_)
            refine WC.region ?_
            refine WL.run 3 tt_ok sg0 rfl rfl trivial ?_
            refine WL.nil ?_
            refine QT.n ?_
            exact ⟨⟨(k4, IntKind.i64.wrap (s3 + 1)), H⟩, Nat.lt_succ_self _, Less.mk' ⟨rfl, rfl, rfl, rfl, trivial⟩ ⟨rfl, trivial⟩⟩
      · replace H := of_f H h7
        refine WH.gskip rfl rfl rfl rfl rfl rfl rfl ?_
        refine WH.gskip rfl rfl rfl rfl rfl rfl rfl ?_
        refine WH.gskip rfl rfl rfl rfl rfl rfl rfl ?_
        refine WH.gskip rfl rfl rfl rfl rfl rfl rfl ?_
        refine WH.gskip rfl rfl rfl rfl rfl rfl rfl ?_
        refine WH.gskip rfl rfl rfl rfl rfl rfl rfl ?_
        refine WH.pick1 rfl rfl rfl rfl rfl rfl rfl ?_
        refine WH.run 1 tt_ok rfl rfl rfl rfl trivial ?_
        obtain ⟨g21, H⟩ := of_need H
        refine WH.grun 5 12 false 37 tt_ok rfl rfl rfl rfl rfl rfl ⟨(nIn_ok g21), trivial⟩ ?_
        refine WH.split (g := 42) rfl (fun h22 => ?_) (fun h22 => ?_)
        · replace H := of_t H h22
          obtain ⟨g23, H⟩ := of_need H
          obtain ⟨g24, H⟩ := of_need H
          refine WH.grun 7 17 true 42 tt_ok rfl rfl rfl rfl rfl rfl ⟨⟨(nIn_ok g23).1, (nIn_ok g23).2, rfl⟩, (nIn_ok g24), trivial⟩ ?_
          obtain ⟨x25, hx25, H⟩ := of_bind H
          refine WH.gcall [] rfl (ref07_least_0 _ hx25) ref07_least_f rfl rfl trivial rfl rfl rfl rfl rfl rfl rfl rfl ?_
          refine WH.grun 2 17 true 42 tt_ok rfl rfl rfl rfl rfl rfl trivial ?_
          refine WH.split (g := 52) rfl (fun h26 => ?_) (fun h26 => ?_)
          · replace H := of_t H h26
            refine WH.gskip rfl rfl rfl rfl rfl rfl rfl ?_
            refine WH.gskip rfl rfl rfl rfl rfl rfl rfl ?_
            refine WH.gskip rfl rfl rfl rfl rfl rfl rfl ?_
            refine WH.gskip rfl rfl rfl rfl rfl rfl rfl ?_
            refine WH.gskip rfl rfl rfl rfl rfl rfl rfl ?_
            refine WH.gskip rfl rfl rfl rfl rfl rfl rfl ?_
            refine WH.gskip rfl rfl rfl rfl rfl rfl rfl ?_
            refine WH.gskip rfl rfl rfl rfl rfl rfl rfl ?_
            refine WH.gskip rfl rfl rfl rfl rfl rfl rfl ?_
            refine WH.gpick1 rfl rfl rfl rfl rfl rfl rfl rfl rfl rfl ?_
            refine WH.gpick1 rfl rfl rfl rfl rfl rfl rfl rfl rfl rfl ?_
            refine WH.pick1 rfl rfl rfl rfl rfl rfl rfl ?_
            refine WH.nil rfl ?_
            refine QT.n ?_
            refine WC.cond rfl (fun h => ?_) (fun h => absurd h (by decide))
            refine WC.seq ?_
            refine WC.region ?_
            refine WL.run 1 tt_ok sg0 rfl rfl trivial ?_
            refine WL.nil ?_
            refine QT.n ?_
            refine WC.ret ?_
            refine QB.r (QT.r (QT.r (QB.r (QT.r ?_))))
            cases H
            exact Ends.auto rfl rfl rfl trivial
          · replace H := of_f H h26
            obtain ⟨g27, H⟩ := of_need H
            obtain ⟨g28, H⟩ := of_need H
            refine WH.grun 7 27 false 52 tt_ok rfl rfl rfl rfl rfl rfl ⟨⟨(nIn_ok g27).1, (nIn_ok g27).2, rfl⟩, (nIn_ok g28), trivial⟩ ?_
            obtain ⟨x29, hx29, H⟩ := of_bind H
            refine WH.gcall [] rfl (ref07_most_0 _ hx29) ref07_most_f rfl rfl trivial rfl rfl rfl rfl rfl rfl rfl rfl ?_
            refine WH.grun 1 27 false 52 tt_ok rfl rfl rfl rfl rfl rfl trivial ?_
            refine WH.gpick1 rfl rfl rfl rfl rfl rfl rfl rfl rfl rfl ?_
            refine WH.gpick1 rfl rfl rfl rfl rfl rfl rfl rfl rfl rfl ?_
            refine WH.pick1 rfl rfl rfl rfl rfl rfl rfl ?_
            refine WH.nil rfl ?_
            refine QT.n ?_
            refine WC.cond rfl (fun h30 => ?_) (fun h30 => ?_)
            · replace H := of_t H h30
              refine WC.seq ?_
              refine WC.region ?_
              refine WL.run 1 tt_ok sg0 rfl rfl trivial ?_
              refine WL.nil ?_
              refine QT.n ?_
              refine WC.ret ?_
              refine QB.r (QT.r (QT.r (QB.r (QT.r ?_))))
              cases H
              exact Ends.auto rfl rfl rfl trivial
            replace H := of_f H h30
            refine WC.skip ?_
            refine QB.n (QT.n ?_)
            refine WC.region ?_
            refine WL.run 3 tt_ok sg0 rfl rfl trivial ?_
            refine WL.nil ?_
            refine QT.n ?_
            exact ⟨⟨(k4, IntKind.i64.wrap (s3 + 1)), H⟩, Nat.lt_succ_self _, Less.mk' ⟨rfl, rfl, rfl, rfl, trivial⟩ ⟨rfl, trivial⟩⟩
        · replace H := of_f H h22
          refine WH.gskip rfl rfl rfl rfl rfl rfl rfl ?_
          refine WH.gskip rfl rfl rfl rfl rfl rfl rfl ?_
          refine WH.gskip rfl rfl rfl rfl rfl rfl rfl ?_
          refine WH.gskip rfl rfl rfl rfl rfl rfl rfl ?_
          refine WH.gskip rfl rfl rfl rfl rfl rfl rfl ?_
          refine WH.gskip rfl rfl rfl rfl rfl rfl rfl ?_
          refine WH.gskip rfl rfl rfl rfl rfl rfl rfl ?_
          refine WH.gskip rfl rfl rfl rfl rfl rfl rfl ?_
          refine WH.gskip rfl rfl rfl rfl rfl rfl rfl ?_
          refine WH.gskip rfl rfl rfl rfl rfl rfl rfl ?_
          refine WH.gskip rfl rfl rfl rfl rfl rfl rfl ?_
          refine WH.gskip rfl rfl rfl rfl rfl rfl rfl ?_
          refine WH.gskip rfl rfl rfl rfl rfl rfl rfl ?_
          refine WH.gskip rfl rfl rfl rfl rfl rfl rfl ?_
          refine WH.gskip rfl rfl rfl rfl rfl rfl rfl ?_
          refine WH.gskip rfl rfl rfl rfl rfl rfl rfl ?_
          refine WH.gskip rfl rfl rfl rfl rfl rfl rfl ?_
          refine WH.gskip rfl rfl rfl rfl rfl rfl rfl ?_
          refine WH.gskip rfl rfl rfl rfl rfl rfl rfl ?_
          refine WH.gskip rfl rfl rfl rfl rfl rfl rfl ?_
          refine WH.gpick1 rfl rfl rfl rfl rfl rfl rfl rfl rfl rfl ?_
          refine WH.pick1 rfl rfl rfl rfl rfl rfl rfl ?_
          refine WH.nil rfl ?_
          refine QT.n ?_
          refine WC.cond rfl (fun h => absurd h (by decide)) (fun h => ?_)
          refine WC.skip ?_
          refine QB.n (QT.n ?_)
          refine WC.region ?_
          refine WL.run 3 tt_ok sg0 rfl rfl trivial ?_
          refine WL.nil ?_
          refine QT.n ?_
          exact ⟨⟨(k4, IntKind.i64.wrap (s3 + 1)), H⟩, Nat.lt_succ_self _, Less.mk' ⟨rfl, rfl, rfl, rfl, trivial⟩ ⟨rfl, trivial⟩⟩
    replace H := of_f H h5
    refine WC.exit ?_
    refine QT.x (QT.x (QB.hit (QT.n ?_)))
    refine WC.seq ?_
    refine WC.seq ?_
    refine WC.region ?_
    refine WL.run 3 tt_ok sg0 rfl rfl trivial ?_
    refine WL.sect 5 2 true tt_ok sg0 rfl rfl (fun _ => trivial) ?_
    refine WL.run 1 tt_ok sg0 rfl rfl ⟨by first | exact id | exact fun h => by rw [h]; rfl | simp_all, trivial⟩ ?_
    refine WL.nil ?_
    refine QT.n ?_
    refine WC.cond rfl (fun h31 => ?_) (fun h31 => ?_)
    · replace H := of_t H h31
      refine WC.seq ?_
      refine WC.region ?_
      refine WL.run 1 tt_ok sg0 rfl rfl trivial ?_
      refine WL.nil ?_
      refine QT.n ?_
      refine WC.ret ?_
      refine QT.r ?_
      cases H
      exact Ends.auto rfl rfl rfl trivial
    replace H := of_f H h31
    refine WC.skip ?_
    refine QT.n ?_
    refine WC.seq ?_
    refine WC.seq ?_
    refine WC.region ?_
    refine WL.run 3 tt_ok sg0 rfl rfl trivial ?_
    refine WL.nil ?_
    refine QT.n ?_
    refine WC.block ?_
    refine WC.loop (ι := {x : Nat × Int // ref07_Check_l33 a0 x.1 x.2 = some r}) (fun x => [(4, .d (slT enc_i64 ([a0.A, a0.B] : List Int))), (6, .d (.int .i64 x.1.2))]) (fun x => []) (fun x => x.1.1) ⟨(fuel, (x3_2_1.size : Int)), H⟩ (Less.mk' ⟨rfl, rfl, trivial⟩ trivial) fun x => ?_
    obtain ⟨⟨k33, s32⟩, H⟩ := x
    rcases k33 with _ | k33
    · exact of_none H
    rw [ref07_Check_l33] at H
    refine WC.seq ?_
    refine WC.seq ?_
    refine WC.region ?_
    refine WL.run 2 tt_ok sg0 rfl rfl trivial ?_
    refine WL.nil ?_
    refine QT.n ?_
    refine WC.cond rfl (fun h34 => ?_) (fun h34 => ?_)
    · replace H := of_t H h34
      refine WC.skip ?_
      refine QT.n ?_
      refine WC.seq ?_
      refine WC.block ?_
      refine WC.seq ?_
      refine WC.region ?_
      obtain ⟨g35, H⟩ := of_need H
      refine WL.run 5 tt_ok sg0 rfl rfl ⟨⟨(nIn_ok g35).1, (nIn_ok g35).2, rfl⟩, trivial⟩ ?_
      refine WL.nil ?_
      refine QT.n ?_
      refine WC.cond rfl (fun h36 => ?_) (fun h36 => ?_)
      · replace H := of_t H h36
        refine WC.seq ?_
        refine WC.region ?_
        refine WL.run 1 tt_ok sg0 rfl rfl trivial ?_
        refine WL.nil ?_
        refine QT.n ?_
        refine WC.ret ?_
        refine QB.r (QT.r (QT.r (QB.r (QT.r ?_))))
        cases H
        exact Ends.auto rfl rfl rfl trivial
      replace H := of_f H h36
      refine WC.skip ?_
      refine QB.n (QT.n ?_)
      refine WC.region ?_
      refine WL.run 3 tt_ok sg0 rfl rfl trivial ?_
      refine WL.nil ?_
      refine QT.n ?_
      exact ⟨⟨(k33, IntKind.i64.wrap (s32 + 1)), H⟩, Nat.lt_succ_self _, Less.mk' ⟨rfl, rfl, trivial⟩ trivial⟩
    replace H := of_f H h34
    refine WC.exit ?_
    refine QT.x (QT.x (QB.hit (QT.n ?_)))
    refine WC.seq ?_
    refine WC.region ?_
    refine WL.run 1 tt_ok sg0 rfl rfl trivial ?_
    refine WL.nil ?_
    refine QT.n ?_
    refine WC.ret ?_
    cases H
    exact Ends.auto rfl rfl rfl trivial
theorem ref07_Check_f : hasFunc Tryd.prog 7 Tryd.f7 := ⟨Tryd.func7, rfl, by kernel_rfl⟩

/-! ### logjam/op.known -/
theorem op_known_0 (a0 : Int) {r : Bool} (H : op_known a0 = some r) : LJ.Spec Tryd.prog 36 [.d (.int .i64 a0)] [] (.d (.bool r)) [] := by
  refine LJ.Spec.code Tryd.func36 rfl 9 rfl rfl [] rfl fun w0 F0 S0 B0 => ?_
  unfold op_known at H
  refine WC.seq ?_
  refine WC.region ?_
  refine WL.run 1 tt_ok sg0 rfl rfl trivial ?_
  refine WL.nil ?_
  refine QT.n ?_
  refine WC.seq ?_
  refine WC.region ?_
  refine WL.run 3 tt_ok sg0 rfl rfl trivial ?_
  refine WL.sect 2 2 true tt_ok sg0 rfl rfl (fun _ => trivial) ?_
  refine WL.run 2 tt_ok sg0 rfl rfl ⟨by first | exact id | exact fun h => by rw [h]; rfl | simp_all, trivial⟩ ?_
  refine WL.nil ?_
  refine QT.n ?_
  refine WC.ret ?_
  cases H
  exact Ends.auto rfl rfl rfl trivial
theorem op_known_f : hasFunc Tryd.prog 36 Tryd.f36 := ⟨Tryd.func36, rfl, by kernel_rfl⟩

/-! ### unicode.is16 -/
theorem unicode_is16_0 (a0 : List T_unicode_Range16) (a1 : Int) {r : Bool} (H : unicode_is16 a0 a1 = some r) : LJ.Spec Tryd.prog 47 [.d (slT enc_unicode_Range16 a0), .d (.int .u16 a1)] [] (.d (.bool r)) [] := by
  refine LJ.Spec.code Tryd.func47 rfl 114 rfl rfl [] rfl fun w0 F0 S0 B0 => ?_
  unfold unicode_is16 at H
  refine WC.seq ?_
  refine WC.region ?_
  refine WL.run 1 tt_ok sg0 rfl rfl trivial ?_
  refine WL.nil ?_
  refine QT.n ?_
  refine WC.seq ?_
  refine WC.seq ?_
  refine WC.region ?_
  refine WL.run 4 tt_ok sg0 rfl rfl trivial ?_
  refine WL.sect 2 3 false tt_ok sg0 rfl rfl (fun _ => trivial) ?_
  refine WL.run 1 tt_ok sg0 rfl rfl ⟨by first | exact id | exact fun h => by rw [h]; rfl | simp_all, trivial⟩ ?_
  refine WL.nil ?_
  refine QT.n ?_
  refine WC.cond rfl (fun h1 => ?_) (fun h1 => ?_)
  · replace H := of_t H h1
    refine WC.seq ?_
    refine WC.seq ?_
    refine WC.region ?_
    refine WL.run 3 tt_ok sg0 rfl rfl trivial ?_
    refine WL.nil ?_
    refine QT.n ?_
    refine WC.block ?_
    refine WC.loop (ι := {x : Nat × Int // unicode_is16_l3 a0 a1 x.1 x.2 = some r}) (fun x => [(0, .d (slT enc_unicode_Range16 a0)), (1, .d (.int .u16 a1)), (19, .d (.int .i64 (a0.length : Int))), (20, .d (.int .i64 x.1.2))]) (fun x => []) (fun x => x.1.1) ⟨(fuel, 0), H⟩ (Less.mk' ⟨rfl, rfl, rfl, rfl, trivial⟩ trivial) fun x => ?_
    obtain ⟨⟨k3, s2⟩, H⟩ := x
    rcases k3 with _ | k3
    · exact of_none H
    rw [unicode_is16_l3] at H
    refine WC.seq ?_
    refine WC.region ?_
    refine WL.run 1 tt_ok sg0 rfl rfl trivial ?_
    refine WL.nil ?_
    refine QT.n ?_
    refine WC.seq ?_
    refine WC.cond rfl (fun h4 => ?_) (fun h4 => ?_)
    · replace H := of_t H h4
      refine WC.skip ?_
      refine QT.n ?_
      refine WC.seq ?_
      refine WC.block ?_
      refine WC.seq ?_
      refine WC.region ?_
      refine WL.run 2 tt_ok sg0 rfl rfl trivial ?_
      refine WL.nil ?_
      refine QT.n ?_
      refine WC.seq ?_
      refine WC.region ?_
      obtain ⟨g5, H⟩ := of_need H
      refine WL.run 4 tt_ok sg0 rfl rfl ⟨⟨(nIn_ok g5).1, (nIn_ok g5).2, rfl⟩, trivial⟩ ?_
      refine WL.nil ?_
      refine QT.n ?_
      refine WC.seq ?_
      refine WC.seq ?_
      refine WC.region ?_
      refine WL.run 6 tt_ok sg0 rfl rfl trivial ?_
      refine WL.nil ?_
      refine QT.n ?_
      refine WC.cond rfl (fun h6 => ?_) (fun h6 => ?_)
      · replace H := of_t H h6
        refine WC.seq ?_
        refine WC.region ?_
        refine WL.run 1 tt_ok sg0 rfl rfl trivial ?_
        refine WL.nil ?_
        refine QT.n ?_
        refine WC.ret ?_
        refine QT.r (QB.r (QT.r (QT.r (QB.r (QT.r (QT.r ?_))))))
        cases H
        exact Ends.auto rfl rfl rfl trivial
      replace H := of_f H h6
      refine WC.skip ?_
      refine QT.n ?_
      refine WC.seq ?_
      refine WC.region ?_
      refine WL.run 6 tt_ok sg0 rfl rfl trivial ?_
      refine WL.nil ?_
      refine QT.n ?_
      refine WC.cond rfl (fun h7 => ?_) (fun h7 => ?_)
      · replace H := of_t H h7
        refine WC.seq ?_
        refine WC.heldP (.one 0 true (.one 1 true (.one 2 true (.one 3 true (.one 4 true (.one 5 true (.one 6 true (.one 7 true (.one 8 true (.one 9 true (.one 10 true (.one 11 true (.one 12 true (.one 13 true (.one 14 true (.one 15 true (.one 16 true (.one 17 true (.one 18 true (.one 19 true .done)))))))))))))))))))) [] [] rfl (by kernel_rfl) rfl (by kernel_rfl) rfl rfl (fun _ h => h) rfl rfl rfl (fun _ _ _ h => h) fun FK NK wK K => ?_
        refine WH.run 6 tt_ok rfl rfl rfl rfl trivial ?_
        obtain ⟨g8, H⟩ := of_needS H
        refine WH.sect 12 5 false tt_ok rfl rfl rfl rfl (fun hb => ⟨(nNz_ok (g8 hb)), trivial⟩) ?_
        refine WH.run 2 tt_ok rfl rfl rfl rfl ⟨by first | exact id | exact fun h => by rw [h]; rfl | simp_all, trivial⟩ ?_
        refine WH.nil rfl ?_
        refine QT.n ?_
        refine WC.ret ?_
        refine QB.r (QT.r (QT.r (QB.r (QT.r (QT.r ?_)))))
        cases H
        exact Ends.auto rfl rfl rfl trivial
      replace H := of_f H h7
      refine WC.skip ?_
      refine QB.n (QT.n ?_)
      refine WC.region ?_
      refine WL.run 2 tt_ok sg0 rfl rfl trivial ?_
      refine WL.nil ?_
      refine QT.n ?_
      exact ⟨⟨(k3, IntKind.i64.wrap (s2 + 1)), H⟩, Nat.lt_succ_self _, Less.mk' ⟨rfl, rfl, rfl, rfl, trivial⟩ trivial⟩
    replace H := of_f H h4
    refine WC.exit ?_
    refine QT.x (QT.x (QB.hit (QT.n ?_)))
    refine WC.seq ?_
    refine WC.region ?_
    refine WL.run 1 tt_ok sg0 rfl rfl trivial ?_
    refine WL.nil ?_
    refine QT.n ?_
    refine WC.ret ?_
    refine QT.r ?_
    cases H
    exact Ends.auto rfl rfl rfl trivial
  replace H := of_f H h1
  refine WC.skip ?_
  refine QT.n ?_
  refine WC.seq ?_
  refine WC.region ?_
  refine WL.run 1 tt_ok sg0 rfl rfl trivial ?_
  refine WL.nil ?_
  refine QT.n ?_
  refine WC.seq ?_
  refine WC.region ?_
  refine WL.run 3 tt_ok sg0 rfl rfl trivial ?_
  refine WL.nil ?_
  refine QT.n ?_
  refine WC.seq ?_
  refine WC.block ?_
  refine WC.loop (ι := {x : Nat × (Int × Int) // unicode_is16_l10 a0 a1 x.1 x.2 = some r}) (fun x => [(0, .d (slT enc_unicode_Range16 a0)), (1, .d (.int .u16 a1)), (7, .d (.int .i64 x.1.2.1)), (8, .d (.int .i64 x.1.2.2))]) (fun x => []) (fun x => x.1.1) ⟨(fuel, (0, (a0.length : Int))), H⟩ (Less.mk' ⟨rfl, rfl, rfl, rfl, trivial⟩ trivial) fun x => ?_
  obtain ⟨⟨k10, s9⟩, H⟩ := x
  rcases k10 with _ | k10
  · exact of_none H
  rw [unicode_is16_l10] at H
  refine WC.seq ?_
  refine WC.seq ?_
  refine WC.region ?_
  refine WL.run 3 tt_ok sg0 rfl rfl trivial ?_
  refine WL.nil ?_
  refine QT.n ?_
  refine WC.cond rfl (fun h11 => ?_) (fun h11 => ?_)
  · replace H := of_t H h11
    refine WC.skip ?_
    refine QT.n ?_
    refine WC.block ?_
    refine WC.seq ?_
    refine WC.region ?_
    refine WL.run 7 tt_ok sg0 rfl rfl trivial ?_
    refine WL.nil ?_
    refine QT.n ?_
    refine WC.seq ?_
    refine WC.region ?_
    obtain ⟨g12, H⟩ := of_need H
    refine WL.run 4 tt_ok sg0 rfl rfl ⟨⟨(nIn_ok g12).1, (nIn_ok g12).2, rfl⟩, trivial⟩ ?_
    refine WL.nil ?_
    refine QT.n ?_
    refine WC.seq ?_
    refine WC.seq ?_
    refine WC.region ?_
    refine WL.run 7 tt_ok sg0 rfl rfl trivial ?_
    refine WL.sect 6 6 true tt_ok sg0 rfl rfl (fun _ => trivial) ?_
    refine WL.run 1 tt_ok sg0 rfl rfl ⟨by first | exact id | exact fun h => by rw [h]; rfl | simp_all, trivial⟩ ?_
    refine WL.nil ?_
    refine QT.n ?_
    refine WC.cond rfl (fun h13 => ?_) (fun h13 => ?_)
    · replace H := of_t H h13
      refine WC.seq ?_
      refine WC.heldP (.one 0 true (.one 1 true (.one 2 true (.one 3 true (.one 4 true (.one 5 true (.one 6 true (.one 7 true (.one 8 true (.one 9 true (.one 10 true (.one 11 true (.one 12 true (.one 13 true (.one 14 true (.one 15 true (.one 16 true (.one 17 true (.one 18 true (.one 19 true .done)))))))))))))))))))) [] [] rfl (by kernel_rfl) rfl (by kernel_rfl) rfl rfl (fun _ h => h) rfl rfl rfl (fun _ _ _ h => h) fun FK NK wK K => ?_
      refine WH.run 6 tt_ok rfl rfl rfl rfl trivial ?_
      obtain ⟨g14, H⟩ := of_needS H
      refine WH.sect 12 5 false tt_ok rfl rfl rfl rfl (fun hb => ⟨(nNz_ok (g14 hb)), trivial⟩) ?_
      refine WH.run 2 tt_ok rfl rfl rfl rfl ⟨by first | exact id | exact fun h => by rw [h]; rfl | simp_all, trivial⟩ ?_
      refine WH.nil rfl ?_
      refine QT.n ?_
      refine WC.ret ?_
      refine QT.r (QB.r (QT.r (QB.r (QT.r ?_))))
      cases H
      exact Ends.auto rfl rfl rfl trivial
    replace H := of_f H h13
    refine WC.skip ?_
    refine QT.n ?_
    refine WC.seq ?_
    refine WC.region ?_
    refine WL.run 6 tt_ok sg0 rfl rfl trivial ?_
    refine WL.nil ?_
    refine QT.n ?_
    refine WC.cond rfl (fun h15 => ?_) (fun h15 => ?_)
    · replace H := of_t H h15
      refine WC.region ?_
      refine WL.run 2 tt_ok sg0 rfl rfl trivial ?_
      refine WL.nil ?_
      refine QB.n (QT.n ?_)
      exact ⟨⟨(k10, (s9.1, IntKind.i64.wrap ((IntKind.u64.wrap (IntKind.i64.wrap (s9.1 + s9.2))) / 2 ^ min (1 : Int).toNat IntKind.u64.bits))), H⟩, Nat.lt_succ_self _, Less.mk' ⟨rfl, rfl, rfl, rfl, trivial⟩ trivial⟩
    replace H := of_f H h15
    refine WC.region ?_
    refine WL.run 3 tt_ok sg0 rfl rfl trivial ?_
    refine WL.nil ?_
    refine QB.n (QT.n ?_)
    exact ⟨⟨(k10, (IntKind.i64.wrap ((IntKind.i64.wrap ((IntKind.u64.wrap (IntKind.i64.wrap (s9.1 + s9.2))) / 2 ^ min (1 : Int).toNat IntKind.u64.bits)) + 1), s9.2)), H⟩, Nat.lt_succ_self _, Less.mk' ⟨rfl, rfl, rfl, rfl, trivial⟩ trivial⟩
  replace H := of_f H h11
  refine WC.exit ?_
  refine QT.x (QT.x (QB.hit (QT.n ?_)))
  refine WC.seq ?_
  refine WC.region ?_
  refine WL.run 1 tt_ok sg0 rfl rfl trivial ?_
  refine WL.nil ?_
  refine QT.n ?_
  refine WC.ret ?_
  cases H
  exact Ends.auto rfl rfl rfl trivial
theorem unicode_is16_f : hasFunc Tryd.prog 47 Tryd.f47 := ⟨Tryd.func47, rfl, by kernel_rfl⟩

/-! ### unicode.is32 -/
theorem unicode_is32_0 (a0 : List T_unicode_Range32) (a1 : Int) {r : Bool} (H : unicode_is32 a0 a1 = some r) : LJ.Spec Tryd.prog 48 [.d (slT enc_unicode_Range32 a0), .d (.int .u32 a1)] [] (.d (.bool r)) [] := by
  refine LJ.Spec.code Tryd.func48 rfl 99 rfl rfl [] rfl fun w0 F0 S0 B0 => ?_
  unfold unicode_is32 at H
  refine WC.seq ?_
  refine WC.region ?_
  refine WL.run 1 tt_ok sg0 rfl rfl trivial ?_
  refine WL.nil ?_
  refine QT.n ?_
  refine WC.seq ?_
  refine WC.seq ?_
  refine WC.region ?_
  refine WL.run 3 tt_ok sg0 rfl rfl trivial ?_
  refine WL.nil ?_
  refine QT.n ?_
  refine WC.cond rfl (fun h1 => ?_) (fun h1 => ?_)
  · replace H := of_t H h1
    refine WC.seq ?_
    refine WC.seq ?_
    refine WC.region ?_
    refine WL.run 3 tt_ok sg0 rfl rfl trivial ?_
    refine WL.nil ?_
    refine QT.n ?_
    refine WC.block ?_
    refine WC.loop (ι := {x : Nat × Int // unicode_is32_l3 a0 a1 x.1 x.2 = some r}) (fun x => [(0, .d (slT enc_unicode_Range32 a0)), (1, .d (.int .u32 a1)), (15, .d (.int .i64 (a0.length : Int))), (16, .d (.int .i64 x.1.2))]) (fun x => []) (fun x => x.1.1) ⟨(fuel, 0), H⟩ (Less.mk' ⟨rfl, rfl, rfl, rfl, trivial⟩ trivial) fun x => ?_
    obtain ⟨⟨k3, s2⟩, H⟩ := x
    rcases k3 with _ | k3
    · exact of_none H
    rw [unicode_is32_l3] at H
    refine WC.seq ?_
    refine WC.region ?_
    refine WL.run 1 tt_ok sg0 rfl rfl trivial ?_
    refine WL.nil ?_
    refine QT.n ?_
    refine WC.seq ?_
    refine WC.cond rfl (fun h4 => ?_) (fun h4 => ?_)
    · replace H := of_t H h4
      refine WC.skip ?_
      refine QT.n ?_
      refine WC.seq ?_
      refine WC.block ?_
      refine WC.seq ?_
      refine WC.region ?_
      refine WL.run 2 tt_ok sg0 rfl rfl trivial ?_
      refine WL.nil ?_
      refine QT.n ?_
      refine WC.seq ?_
      refine WC.region ?_
      obtain ⟨g5, H⟩ := of_need H
      refine WL.run 4 tt_ok sg0 rfl rfl ⟨⟨(nIn_ok g5).1, (nIn_ok g5).2, rfl⟩, trivial⟩ ?_
      refine WL.nil ?_
      refine QT.n ?_
      refine WC.seq ?_
      refine WC.seq ?_
      refine WC.region ?_
      refine WL.run 6 tt_ok sg0 rfl rfl trivial ?_
      refine WL.nil ?_
      refine QT.n ?_
      refine WC.cond rfl (fun h6 => ?_) (fun h6 => ?_)
      · replace H := of_t H h6
        refine WC.seq ?_
        refine WC.region ?_
        refine WL.run 1 tt_ok sg0 rfl rfl trivial ?_
        refine WL.nil ?_
        refine QT.n ?_
        refine WC.ret ?_
        refine QT.r (QB.r (QT.r (QT.r (QB.r (QT.r (QT.r ?_))))))
        cases H
        exact Ends.auto rfl rfl rfl trivial
      replace H := of_f H h6
      refine WC.skip ?_
      refine QT.n ?_
      refine WC.seq ?_
      refine WC.region ?_
      refine WL.run 6 tt_ok sg0 rfl rfl trivial ?_
      refine WL.nil ?_
      refine QT.n ?_
      refine WC.cond rfl (fun h7 => ?_) (fun h7 => ?_)
      · replace H := of_t H h7
        refine WC.seq ?_
        refine WC.heldP (.one 0 true (.one 1 true (.one 2 true (.one 3 true (.one 4 true (.one 5 true (.one 6 true (.one 7 true (.one 8 true (.one 9 true (.one 10 true (.one 11 true (.one 12 true (.one 13 true (.one 14 true (.one 15 true (.one 16 true (.one 17 true (.one 18 true (.one 19 true .done)))))))))))))))))))) [] [] rfl (by kernel_rfl) rfl (by kernel_rfl) rfl rfl (fun _ h => h) rfl rfl rfl (fun _ _ _ h => h) fun FK NK wK K => ?_
        refine WH.run 6 tt_ok rfl rfl rfl rfl trivial ?_
        obtain ⟨g8, H⟩ := of_needS H
        refine WH.sect 12 5 false tt_ok rfl rfl rfl rfl (fun hb => ⟨(nNz_ok (g8 hb)), trivial⟩) ?_
        refine WH.run 2 tt_ok rfl rfl rfl rfl ⟨by first | exact id | exact fun h => by rw [h]; rfl | simp_all, trivial⟩ ?_
        refine WH.nil rfl ?_
        refine QT.n ?_
        refine WC.ret ?_
        refine QB.r (QT.r (QT.r (QB.r (QT.r (QT.r ?_)))))
        cases H
        exact Ends.auto rfl rfl rfl trivial
      replace H := of_f H h7
      refine WC.skip ?_
      refine QB.n (QT.n ?_)
      refine WC.region ?_
      refine WL.run 2 tt_ok sg0 rfl rfl trivial ?_
      refine WL.nil ?_
      refine QT.n ?_
      exact ⟨⟨(k3, IntKind.i64.wrap (s2 + 1)), H⟩, Nat.lt_succ_self _, Less.mk' ⟨rfl, rfl, rfl, rfl, trivial⟩ trivial⟩
    replace H := of_f H h4
    refine WC.exit ?_
    refine QT.x (QT.x (QB.hit (QT.n ?_)))
    refine WC.seq ?_
    refine WC.region ?_
    refine WL.run 1 tt_ok sg0 rfl rfl trivial ?_
    refine WL.nil ?_
    refine QT.n ?_
    refine WC.ret ?_
    refine QT.r ?_
    cases H
    exact Ends.auto rfl rfl rfl trivial
  replace H := of_f H h1
  refine WC.skip ?_
  refine QT.n ?_
  refine WC.seq ?_
  refine WC.region ?_
  refine WL.run 1 tt_ok sg0 rfl rfl trivial ?_
  refine WL.nil ?_
  refine QT.n ?_
  refine WC.seq ?_
  refine WC.region ?_
  refine WL.run 3 tt_ok sg0 rfl rfl trivial ?_
  refine WL.nil ?_
  refine QT.n ?_
  refine WC.seq ?_
  refine WC.block ?_
  refine WC.loop (ι := {x : Nat × (Int × Int) // unicode_is32_l10 a0 a1 x.1 x.2 = some r}) (fun x => [(0, .d (slT enc_unicode_Range32 a0)), (1, .d (.int .u32 a1)), (7, .d (.int .i64 x.1.2.1)), (8, .d (.int .i64 x.1.2.2))]) (fun x => []) (fun x => x.1.1) ⟨(fuel, (0, (a0.length : Int))), H⟩ (Less.mk' ⟨rfl, rfl, rfl, rfl, trivial⟩ trivial) fun x => ?_
  obtain ⟨⟨k10, s9⟩, H⟩ := x
  rcases k10 with _ | k10
  · exact of_none H
  rw [unicode_is32_l10] at H
  refine WC.seq ?_
  refine WC.seq ?_
  refine WC.region ?_
  refine WL.run 3 tt_ok sg0 rfl rfl trivial ?_
  refine WL.nil ?_
  refine QT.n ?_
  refine WC.cond rfl (fun h11 => ?_) (fun h11 => ?_)
  · replace H := of_t H h11
    refine WC.skip ?_
    refine QT.n ?_
    refine WC.block ?_
    refine WC.seq ?_
    refine WC.region ?_
    refine WL.run 7 tt_ok sg0 rfl rfl trivial ?_
    refine WL.nil ?_
    refine QT.n ?_
    refine WC.seq ?_
    refine WC.region ?_
    obtain ⟨g12, H⟩ := of_need H
    refine WL.run 4 tt_ok sg0 rfl rfl ⟨⟨(nIn_ok g12).1, (nIn_ok g12).2, rfl⟩, trivial⟩ ?_
    refine WL.alloc 110 tt_ok rfl rfl rfl ?_
    refine WL.eff 0 tt_ok et_ok eg0 rfl rfl rfl trivial ?_
    refine WL.nil ?_
    refine QT.n ?_
    refine WC.seq ?_
    refine WC.seq ?_
    refine WC.region ?_
    refine WL.run 5 tt_ok sg0 rfl rfl trivial ?_
    refine WL.sect 4 4 true tt_ok sg0 rfl rfl (fun _ => trivial) ?_
    refine WL.run 1 tt_ok sg0 rfl rfl ⟨by first | exact id | exact fun h => by rw [h]; rfl | simp_all, trivial⟩ ?_
    refine WL.nil ?_
    refine QT.n ?_
    refine WC.cond rfl (fun h13 => ?_) (fun h13 => ?_)
    · replace H := of_t H h13
      refine WC.seq ?_
      refine WC.region ?_
      refine WL.run 4 tt_ok sg0 rfl rfl trivial ?_
      obtain ⟨g14, H⟩ := of_needS H
      refine WL.sect 8 3 false tt_ok sg0 rfl rfl (fun hb => ⟨(nNz_ok (g14 hb)), trivial⟩) ?_
      refine WL.run 2 tt_ok sg0 rfl rfl ⟨by first | exact id | exact fun h => by rw [h]; rfl | simp_all, trivial⟩ ?_
      refine WL.nil ?_
      refine QT.n ?_
      refine WC.ret ?_
      refine QT.r (QB.r (QT.r (QB.r (QT.r ?_))))
      cases H
      exact Ends.auto rfl rfl rfl trivial
    replace H := of_f H h13
    refine WC.skip ?_
    refine QT.n ?_
    refine WC.seq ?_
    refine WC.region ?_
    refine WL.run 4 tt_ok sg0 rfl rfl trivial ?_
    refine WL.nil ?_
    refine QT.n ?_
    refine WC.cond rfl (fun h15 => ?_) (fun h15 => ?_)
    · replace H := of_t H h15
      refine WC.region ?_
      refine WL.run 2 tt_ok sg0 rfl rfl trivial ?_
      refine WL.nil ?_
      refine QB.n (QT.n ?_)
      exact ⟨⟨(k10, (s9.1, IntKind.i64.wrap ((IntKind.u64.wrap (IntKind.i64.wrap (s9.1 + s9.2))) / 2 ^ min (1 : Int).toNat IntKind.u64.bits))), H⟩, Nat.lt_succ_self _, Less.mk' ⟨rfl, rfl, rfl, rfl, trivial⟩ trivial⟩
    replace H := of_f H h15
    refine WC.region ?_
    refine WL.run 3 tt_ok sg0 rfl rfl trivial ?_
    refine WL.nil ?_
    refine QB.n (QT.n ?_)
    exact ⟨⟨(k10, (IntKind.i64.wrap ((IntKind.i64.wrap ((IntKind.u64.wrap (IntKind.i64.wrap (s9.1 + s9.2))) / 2 ^ min (1 : Int).toNat IntKind.u64.bits)) + 1), s9.2)), H⟩, Nat.lt_succ_self _, Less.mk' ⟨rfl, rfl, rfl, rfl, trivial⟩ trivial⟩
  replace H := of_f H h11
  refine WC.exit ?_
  refine QT.x (QT.x (QB.hit (QT.n ?_)))
  refine WC.seq ?_
  refine WC.region ?_
  refine WL.run 1 tt_ok sg0 rfl rfl trivial ?_
  refine WL.nil ?_
  refine QT.n ?_
  refine WC.ret ?_
  cases H
  exact Ends.auto rfl rfl rfl trivial
theorem unicode_is32_f : hasFunc Tryd.prog 48 Tryd.f48 := ⟨Tryd.func48, rfl, by kernel_rfl⟩

/-! ### unicode.isExcludingLatin -/
theorem unicode_isExcludingLatin_0 (a0 : T_unicode_RangeTable) (a1 : Int) {r : Bool} (H : unicode_isExcludingLatin a0 a1 = some r) : LJ.Spec Tryd.prog 46 [.ptr 0 0, .d (.int .i32 a1)] [(0, .box 86 [.d (slT enc_unicode_Range16 a0.R16), .d (slT enc_unicode_Range32 a0.R32), .d (.int .i64 a0.LatinOffset)])] (.d (.bool r)) [(0, .box 86 [.d (slT enc_unicode_Range16 a0.R16), .d (slT enc_unicode_Range32 a0.R32), .d (.int .i64 a0.LatinOffset)])] := by
  refine LJ.Spec.code Tryd.func46 rfl 59 rfl rfl [0] rfl fun w0 F0 S0 B0 => ?_
  unfold unicode_isExcludingLatin at H
  refine WC.seq ?_
  refine WC.region ?_
  refine WL.run 1 tt_ok sg0 rfl rfl trivial ?_
  refine WL.nil ?_
  refine QT.n ?_
  refine WC.seq ?_
  refine WC.region ?_
  refine WL.run 5 tt_ok sg0 rfl rfl trivial ?_
  refine WL.nil ?_
  refine QT.n ?_
  refine WC.seq ?_
  refine WC.seq ?_
  refine WC.region ?_
  refine WL.run 5 tt_ok sg0 rfl rfl trivial ?_
  refine WL.nil ?_
  refine QT.n ?_
  refine WC.seq ?_
  refine WC.region ?_
  refine WL.run 5 tt_ok sg0 rfl rfl trivial ?_
  obtain ⟨g1, H⟩ := of_needS H
  refine WL.sect 11 4 true tt_ok sg0 rfl rfl (fun hb => ⟨⟨(nIn_ok (g1 hb)).1, (nIn_ok (g1 hb)).2, rfl⟩, trivial⟩) ?_
  refine WL.run 1 tt_ok sg0 rfl rfl ⟨by first | exact id | exact fun h => by rw [h]; rfl | simp_all, trivial⟩ ?_
  refine WL.nil ?_
  refine QT.n ?_
  refine WC.cond rfl (fun h2 => ?_) (fun h2 => ?_)
  · replace H := of_t H h2
    refine WC.seq ?_
    refine WC.region ?_
    refine WL.run 2 tt_ok sg0 rfl rfl trivial ?_
    obtain ⟨g3, H⟩ := of_need H
    refine WL.yv (LJ.Y.sliceT enc_unicode_Range16 a0.R16 tt_ok rfl (fun _ => rfl) (some (.tmp 34)) none a0.LatinOffset (a0.R16.length : Int) rfl ⟨_, rfl⟩ rfl rfl rfl (nSl_ok g3)) rfl rfl rfl ?_
    refine WL.run 2 tt_ok sg0 rfl rfl trivial ?_
    obtain ⟨x4, hx4, H⟩ := of_bind H
    refine WL.call [] (unicode_is16_0 _ _ hx4) unicode_is16_f rfl rfl trivial rfl rfl rfl ?_
    refine WL.run 1 tt_ok sg0 rfl rfl trivial ?_
    refine WL.nil ?_
    refine QT.n ?_
    refine WC.ret ?_
    refine QT.r ?_
    cases H
    exact Ends.auto rfl rfl rfl ⟨rfl, trivial⟩
  replace H := of_f H h2
  refine WC.skip ?_
  refine QT.n ?_
  refine WC.seq ?_
  refine WC.region ?_
  refine WL.run 5 tt_ok sg0 rfl rfl trivial ?_
  refine WL.nil ?_
  refine QT.n ?_
  refine WC.seq ?_
  refine WC.seq ?_
  refine WC.region ?_
  refine WL.run 4 tt_ok sg0 rfl rfl trivial ?_
  obtain ⟨g5, H⟩ := of_needS H
  refine WL.sect 7 3 true tt_ok sg0 rfl rfl (fun hb => ⟨⟨(nIn_ok (g5 hb)).1, (nIn_ok (g5 hb)).2, rfl⟩, trivial⟩) ?_
  refine WL.run 1 tt_ok sg0 rfl rfl ⟨by first | exact id | exact fun h => by rw [h]; rfl | simp_all, trivial⟩ ?_
  refine WL.nil ?_
  refine QT.n ?_
  refine WC.cond rfl (fun h6 => ?_) (fun h6 => ?_)
  · replace H := of_t H h6
    refine WC.seq ?_
    refine WC.region ?_
    refine WL.run 3 tt_ok sg0 rfl rfl trivial ?_
    obtain ⟨x7, hx7, H⟩ := of_bind H
    refine WL.call [] (unicode_is32_0 _ _ hx7) unicode_is32_f rfl rfl trivial rfl rfl rfl ?_
    refine WL.run 1 tt_ok sg0 rfl rfl trivial ?_
    refine WL.nil ?_
    refine QT.n ?_
    refine WC.ret ?_
    refine QT.r ?_
    cases H
    exact Ends.auto rfl rfl rfl ⟨rfl, trivial⟩
  replace H := of_f H h6
  refine WC.skip ?_
  refine QT.n ?_
  refine WC.seq ?_
  refine WC.region ?_
  refine WL.run 1 tt_ok sg0 rfl rfl trivial ?_
  refine WL.nil ?_
  refine QT.n ?_
  refine WC.ret ?_
  cases H
  exact Ends.auto rfl rfl rfl ⟨rfl, trivial⟩
theorem unicode_isExcludingLatin_s (n0 : Nat) (hn : nodupB [n0] = true) (a0 : T_unicode_RangeTable) (a1 : Int) {r : Bool} (H : unicode_isExcludingLatin a0 a1 = some r) : LJ.Spec Tryd.prog 46 [.ptr n0 0, .d (.int .i32 a1)] [(n0, .box 86 [.d (slT enc_unicode_Range16 a0.R16), .d (slT enc_unicode_Range32 a0.R32), .d (.int .i64 a0.LatinOffset)])] (.d (.bool r)) [(n0, .box 86 [.d (slT enc_unicode_Range16 a0.R16), .d (slT enc_unicode_Range32 a0.R32), .d (.int .i64 a0.LatinOffset)])] :=
  Spec.names [n0] hn rfl rfl (unicode_isExcludingLatin_0 a0 a1 H)
theorem unicode_isExcludingLatin_f : hasFunc Tryd.prog 46 Tryd.f46 := ⟨Tryd.func46, rfl, by kernel_rfl⟩

/-! ### strings.Fields -/
theorem strings_Fields_0 (a0 : ByteArray) {r : List ByteArray} (H : strings_Fields a0 = some r) : LJ.Spec Tryd.prog 37 [.d (.str a0)] [] (.d (slT enc_str r)) [] := by
  refine LJ.Spec.code Tryd.func37 rfl 106 rfl rfl [] rfl fun w0 F0 S0 B0 => ?_
  unfold strings_Fields at H
  refine WC.seq ?_
  refine WC.region ?_
  refine WL.run 1 tt_ok sg0 rfl rfl trivial ?_
  refine WL.nil ?_
  refine QT.n ?_
  refine WC.seq ?_
  refine WC.region ?_
  refine WL.run 1 tt_ok sg0 rfl rfl trivial ?_
  refine WL.nil ?_
  refine QT.n ?_
  refine WC.seq ?_
  refine WC.region ?_
  refine WL.run 1 tt_ok sg0 rfl rfl trivial ?_
  refine WL.nil ?_
  refine QT.n ?_
  refine WC.seq ?_
  refine WC.region ?_
  refine WL.run 1 tt_ok sg0 rfl rfl trivial ?_
  refine WL.nil ?_
  refine QT.n ?_
  refine WC.seq ?_
  refine WC.seq ?_
  refine WC.region ?_
  refine WL.run 1 tt_ok sg0 rfl rfl trivial ?_
  refine WL.nil ?_
  refine QT.n ?_
  refine WC.block ?_
  refine WC.loop (ι := {x : Nat × (Int × Int × Int × Int) // strings_Fields_l2 a0 x.1 x.2 = some r}) (fun x => [(0, .d (.str a0)), (3, .d (.int .i64 x.1.2.1)), (4, .d (.int .i64 x.1.2.2.1)), (5, .d (.int .u8 x.1.2.2.2.1)), (6, .d (.int .i64 x.1.2.2.2.2))]) (fun x => []) (fun x => x.1.1) ⟨(fuel, (0, 1, 0, 0)), H⟩ (Less.mk' ⟨rfl, rfl, rfl, rfl, rfl, trivial⟩ trivial) fun x => ?_
  obtain ⟨⟨k2, s1⟩, H⟩ := x
  rcases k2 with _ | k2
  · exact of_none H
  rw [strings_Fields_l2] at H
  refine WC.seq ?_
  refine WC.seq ?_
  refine WC.region ?_
  refine WL.run 4 tt_ok sg0 rfl rfl trivial ?_
  refine WL.nil ?_
  refine QT.n ?_
  refine WC.cond rfl (fun h3 => ?_) (fun h3 => ?_)
  · replace H := of_t H h3
    refine WC.skip ?_
    refine QT.n ?_
    refine WC.seq ?_
    refine WC.block ?_
    refine WC.seq ?_
    refine WC.region ?_
    obtain ⟨g4, H⟩ := of_need H
    refine WL.run 4 tt_ok sg0 rfl rfl ⟨(nIn_ok g4), trivial⟩ ?_
    refine WL.nil ?_
    refine QT.n ?_
    refine WC.seq ?_
    refine WC.region ?_
    refine WL.run 4 tt_ok sg0 rfl rfl trivial ?_
    refine WL.nil ?_
    refine QT.n ?_
    refine WC.seq ?_
    refine WC.region ?_
    refine WL.run 1 tt_ok sg0 rfl rfl trivial ?_
    obtain ⟨g5, H⟩ := of_need H
    refine WL.yv (LJ.Y.idxElpA 256 (fun k => .int .u8 (G_strings_asciiSpace.getD k default)) (byteAt a0 s1.2.2.2.toNat) (by kernel_rfl) rfl rfl rfl gl_0_take (nIn_ok g5)) rfl rfl rfl ?_
    refine WL.run 3 tt_ok sg0 rfl rfl trivial ?_
    refine WL.nil ?_
    refine QT.n ?_
    refine WC.seq ?_
    refine WC.region ?_
    refine WL.run 7 tt_ok sg0 rfl rfl trivial ?_
    refine WL.nil ?_
    refine QT.n ?_
    refine WC.region ?_
    refine WL.run 2 tt_ok sg0 rfl rfl trivial ?_
    refine WL.nil ?_
    refine QB.n (QT.n ?_)
    refine WC.region ?_
    refine WL.run 3 tt_ok sg0 rfl rfl trivial ?_
    refine WL.nil ?_
    refine QT.n ?_
    exact ⟨⟨(k2, (IntKind.i64.wrap (s1.1 + (Go.bits .and .i64 s1.2.1 (Go.bits .xor .i64 (cond IntKind.i64.signed (-1) IntKind.i64.max) (IntKind.i64.wrap (G_strings_asciiSpace.getD (byteAt a0 s1.2.2.2.toNat).toNat default))))), IntKind.i64.wrap (G_strings_asciiSpace.getD (byteAt a0 s1.2.2.2.toNat).toNat default), Go.bits .or .u8 s1.2.2.1 (byteAt a0 s1.2.2.2.toNat), IntKind.i64.wrap (s1.2.2.2 + 1))), H⟩, Nat.lt_succ_self _, Less.mk' ⟨rfl, rfl, rfl, rfl, rfl, trivial⟩ trivial⟩
  replace H := of_f H h3
  refine WC.exit ?_
  refine QT.x (QT.x (QB.hit (QT.n ?_)))
  refine WC.seq ?_
  refine WC.seq ?_
  refine WC.region ?_
  refine WL.run 2 tt_ok sg0 rfl rfl trivial ?_
  refine WL.nil ?_
  refine QT.n ?_
  refine WC.cond rfl (fun h6 => ?_) (fun h6 => ?_)
  · replace H := of_t H h6
    exact of_none H
  replace H := of_f H h6
  refine WC.skip ?_
  refine QT.n ?_
  refine WC.seq ?_
  refine WC.region ?_
  refine WL.run 1 tt_ok sg0 rfl rfl trivial ?_
  obtain ⟨g7, H⟩ := of_need H
  refine WL.makeT (r := 141) enc_str (ByteArray.empty : ByteArray) s1.1 tt_ok et_ok rfl rfl rfl rfl rfl rfl rfl (nMk_ok g7) rfl rfl rfl rfl ?_
  refine WL.run 1 tt_ok sg0 rfl rfl trivial ?_
  refine WL.nil ?_
  refine QT.n ?_
  refine WC.seq ?_
  refine WC.region ?_
  refine WL.run 1 tt_ok sg0 rfl rfl trivial ?_
  refine WL.nil ?_
  refine QT.n ?_
  refine WC.seq ?_
  refine WC.region ?_
  refine WL.run 1 tt_ok sg0 rfl rfl trivial ?_
  refine WL.nil ?_
  refine QT.n ?_
  refine WC.seq ?_
  refine WC.region ?_
  refine WL.run 1 tt_ok sg0 rfl rfl trivial ?_
  refine WL.nil ?_
  refine QT.n ?_
  obtain ⟨K8, hK8, H⟩ := of_withK H
  refine WC.cut (fun E m => ∃ s9 : Int, K8 s9 = some r ∧ LessW E m [(0, .d (.str a0)), (9, .own 141), (10, .d (.int .i64 0)), (12, .d (.int .i64 s9))] [(141, .row 9 1 ((List.replicate s1.1.toNat (ByteArray.empty : ByteArray)).map enc_str))]) ?_ ?_
  · refine WC.block ?_
    refine WC.loop (ι := {x : Nat × Int // strings_Fields_l11 a0 K8 x.1 x.2 = some r}) (fun x => [(0, .d (.str a0)), (9, .own 141), (10, .d (.int .i64 0)), (12, .d (.int .i64 x.1.2))]) (fun x => [(141, .row 9 1 ((List.replicate s1.1.toNat (ByteArray.empty : ByteArray)).map enc_str))]) (fun x => x.1.1) ⟨(fuel, 0), H⟩ (Less.mk' ⟨rfl, rfl, rfl, rfl, trivial⟩ ⟨rfl, trivial⟩) fun x => ?_
    obtain ⟨⟨k11, s10⟩, H⟩ := x
    rcases k11 with _ | k11
    · exact of_none H
    rw [strings_Fields_l11] at H
    refine WC.seq ?_
    refine WC.seq ?_
    refine WC.region ?_
    refine WL.run 5 tt_ok sg0 rfl rfl trivial ?_
    refine WL.split (g := 46) rfl (fun h12 => ?_) (fun h12 => ?_)
    · replace H := of_t H h12
      obtain ⟨g13, H⟩ := of_need H
      refine WL.grun 3 4 true 46 tt_ok sg0 rfl rfl rfl rfl ⟨(nIn_ok g13), trivial⟩ ?_
      obtain ⟨g14, H⟩ := of_need H
      refine WL.gyv (LJ.Y.idxElpA 256 (fun k => .int .u8 (G_strings_asciiSpace.getD k default)) (byteAt a0 s10.toNat) (by kernel_rfl) rfl rfl rfl gl_0_take (nIn_ok g14)) rfl rfl rfl rfl rfl rfl ?_
      refine WL.grun 2 4 true 46 tt_ok sg0 rfl rfl rfl rfl trivial ?_
      refine WL.pickT rfl rfl rfl rfl rfl rfl ?_
      refine WL.nil ?_
      refine QT.n ?_
      refine WC.cond rfl (fun h15 => ?_) (fun h15 => ?_)
      · replace H := of_t H h15
        refine WC.skip ?_
        refine QT.n ?_
        refine WC.block ?_
        refine WC.region ?_
        refine WL.run 3 tt_ok sg0 rfl rfl trivial ?_
        refine WL.nil ?_
        refine QB.n (QT.n ?_)
        exact ⟨⟨(k11, IntKind.i64.wrap (s10 + 1)), H⟩, Nat.lt_succ_self _, Less.mk' ⟨rfl, rfl, rfl, rfl, trivial⟩ ⟨rfl, trivial⟩⟩
      replace H := of_f H h15
      refine WC.exit ?_
      refine QT.x (QT.x (QB.hit (QT.n ?_)))
      exact ⟨s10, H, LessW.mk' ⟨AVle.of rfl, AVle.of rfl, AVle.of rfl, AVle.of rfl, trivial⟩ ⟨rfl, trivial⟩⟩
    · replace H := of_f H h12
      refine WL.gskips 6 4 true 46 rfl rfl rfl rfl ?_
      refine WL.pickF rfl rfl rfl rfl rfl rfl ?_
      refine WL.nil ?_
      refine QT.n ?_
      refine WC.cond rfl (fun h => absurd h (by decide)) (fun h => ?_)
      refine WC.exit ?_
      refine QT.x (QT.x (QB.hit (QT.n ?_)))
      exact ⟨s10, H, LessW.mk' ⟨AVle.of rfl, AVle.of rfl, AVle.of rfl, AVle.of rfl, trivial⟩ ⟨rfl, trivial⟩⟩
  · rintro E m ⟨s9, H, hl⟩
    refine WC.lessW hl ?_
    replace H := (hK8 _).symm.trans H
    try dsimp only at H
    refine WC.seq ?_
    refine WC.region ?_
    refine WL.run 2 tt_ok sg0 rfl rfl trivial ?_
    refine WL.nil ?_
    refine QT.n ?_
    obtain ⟨K16, hK16, H⟩ := of_withK H
    refine WC.cut (fun E m => ∃ s17 : Int × Int × (List ByteArray), K16 s17 = some r ∧ LessW E m [(0, .d (.str a0)), (9, .own 141), (10, .d (.int .i64 s17.1)), (11, .d (.int .i64 s17.2.1))] [(141, .row 9 1 (s17.2.2.map enc_str))]) ?_ ?_
    · refine WC.block ?_
      refine WC.loop (ι := {x : Nat × (Int × Int × Int × (List ByteArray)) // strings_Fields_l19 a0 K16 x.1 x.2 = some r}) (fun x => [(0, .d (.str a0)), (9, .own 141), (10, .d (.int .i64 x.1.2.1)), (11, .d (.int .i64 x.1.2.2.1)), (12, .d (.int .i64 x.1.2.2.2.1))]) (fun x => [(141, .row 9 1 (x.1.2.2.2.2.map enc_str))]) (fun x => x.1.1) ⟨(fuel, (0, s9, s9, List.replicate s1.1.toNat (ByteArray.empty : ByteArray))), H⟩ (Less.mk' ⟨rfl, rfl, rfl, rfl, rfl, trivial⟩ ⟨rfl, trivial⟩) fun x => ?_
      obtain ⟨⟨k19, s18⟩, H⟩ := x
      rcases k19 with _ | k19
      · exact of_none H
      rw [strings_Fields_l19] at H
      refine WC.seq ?_
      refine WC.seq ?_
      refine WC.region ?_
      refine WL.run 4 tt_ok sg0 rfl rfl trivial ?_
      refine WL.nil ?_
      refine QT.n ?_
      refine WC.cond rfl (fun h20 => ?_) (fun h20 => ?_)
      · replace H := of_t H h20
        refine WC.skip ?_
        refine QT.n ?_
        refine WC.block ?_
        refine WC.seq ?_
        refine WC.seq ?_
        refine WC.region ?_
        obtain ⟨g21, H⟩ := of_need H
        refine WL.run 3 tt_ok sg0 rfl rfl ⟨(nIn_ok g21), trivial⟩ ?_
        obtain ⟨g22, H⟩ := of_need H
        refine WL.yv (LJ.Y.idxElpA 256 (fun k => .int .u8 (G_strings_asciiSpace.getD k default)) (byteAt a0 s18.2.2.1.toNat) (by kernel_rfl) rfl rfl rfl gl_0_take (nIn_ok g22)) rfl rfl rfl ?_
        refine WL.run 2 tt_ok sg0 rfl rfl trivial ?_
        refine WL.nil ?_
        refine QT.n ?_
        refine WC.cond rfl (fun h23 => ?_) (fun h23 => ?_)
        · replace H := of_t H h23
          refine WC.seq ?_
          refine WC.region ?_
          refine WL.run 3 tt_ok sg0 rfl rfl trivial ?_
          refine WL.nil ?_
          refine QT.n ?_
          refine WC.exit ?_
          refine QT.x (QB.hit (QT.n ?_))
          exact ⟨⟨(k19, (s18.1, s18.2.1, IntKind.i64.wrap (s18.2.2.1 + 1), s18.2.2.2)), H⟩, Nat.lt_succ_self _, Less.mk' ⟨rfl, rfl, rfl, rfl, rfl, trivial⟩ ⟨rfl, trivial⟩⟩
        replace H := of_f H h23
        refine WC.skip ?_
        refine QT.n ?_
        refine WC.seq ?_
        refine WC.region ?_
        obtain ⟨g24, H⟩ := of_need H
        refine WL.run 6 tt_ok sg0 rfl rfl ⟨(nSl_ok g24), trivial⟩ ?_
        obtain ⟨g25, H⟩ := of_need H
        refine WL.yv (LJ.Y.idxRel enc_str s18.2.2.2 s18.1 tt_ok rfl rfl rfl rfl rfl (nIn_ok g25)) rfl rfl rfl ?_
        refine WL.storeRel enc_str s18.2.2.2 s18.1 0 (a0.extract s18.2.1.toNat s18.2.2.1.toNat) (.str (a0.extract s18.2.1.toNat s18.2.2.1.toNat)) rfl rfl rfl rfl (fun _ => rfl) rfl (by kernel_rfl) rfl rfl (by first | exact nIn_ok g25 | (have := nIn_ok g25; simpa only [List.length_set, List.length_map] using this)) rfl rfl rfl rfl ?_
        refine WL.nil ?_
        refine QT.n ?_
        refine WC.seq ?_
        refine WC.region ?_
        refine WL.run 3 tt_ok sg0 rfl rfl trivial ?_
        refine WL.nil ?_
        refine QT.n ?_
        refine WC.seq ?_
        refine WC.region ?_
        refine WL.run 3 tt_ok sg0 rfl rfl trivial ?_
        refine WL.nil ?_
        refine QT.n ?_
        obtain ⟨K26, hK26, H⟩ := of_withK H
        refine WC.cut (fun E m => ∃ s27 : Int, K26 s27 = some r ∧ LessW E m [(0, .d (.str a0)), (9, .own 141), (10, .d (.int .i64 (IntKind.i64.wrap (s18.1 + 1)))), (12, .d (.int .i64 s27))] [(141, .row 9 1 ((s18.2.2.2.set s18.1.toNat (a0.extract s18.2.1.toNat s18.2.2.1.toNat)).map enc_str))]) ?_ ?_
        · refine WC.block ?_
          refine WC.loop (ι := {x : Nat × Int // strings_Fields_l29 a0 K26 x.1 x.2 = some r}) (fun x => [(0, .d (.str a0)), (9, .own 141), (10, .d (.int .i64 (IntKind.i64.wrap (s18.1 + 1)))), (12, .d (.int .i64 x.1.2))]) (fun x => [(141, .row 9 1 ((s18.2.2.2.set s18.1.toNat (a0.extract s18.2.1.toNat s18.2.2.1.toNat)).map enc_str))]) (fun x => x.1.1) ⟨(fuel, IntKind.i64.wrap (s18.2.2.1 + 1)), H⟩ (Less.mk' ⟨rfl, rfl, rfl, rfl, trivial⟩ ⟨rfl, trivial⟩) fun x => ?_
          obtain ⟨⟨k29, s28⟩, H⟩ := x
          rcases k29 with _ | k29
          · exact of_none H
          rw [strings_Fields_l29] at H
          refine WC.seq ?_
          refine WC.seq ?_
          refine WC.region ?_
          refine WL.run 5 tt_ok sg0 rfl rfl trivial ?_
          refine WL.split (g := 84) rfl (fun h30 => ?_) (fun h30 => ?_)
          · replace H := of_t H h30
            obtain ⟨g31, H⟩ := of_need H
            refine WL.grun 3 4 true 84 tt_ok sg0 rfl rfl rfl rfl ⟨(nIn_ok g31), trivial⟩ ?_
            obtain ⟨g32, H⟩ := of_need H
            refine WL.gyv (LJ.Y.idxElpA 256 (fun k => .int .u8 (G_strings_asciiSpace.getD k default)) (byteAt a0 s28.toNat) (by kernel_rfl) rfl rfl rfl gl_0_take (nIn_ok g32)) rfl rfl rfl rfl rfl rfl ?_
            refine WL.grun 2 4 true 84 tt_ok sg0 rfl rfl rfl rfl trivial ?_
            refine WL.pickT rfl rfl rfl rfl rfl rfl ?_
            refine WL.nil ?_
            refine QT.n ?_
            refine WC.cond rfl (fun h33 => ?_) (fun h33 => ?_)
            · replace H := of_t H h33
              refine WC.skip ?_
              refine QT.n ?_
              refine WC.block ?_
              refine WC.region ?_
              refine WL.run 3 tt_ok sg0 rfl rfl trivial ?_
              refine WL.nil ?_
              refine QB.n (QT.n ?_)
              exact ⟨⟨(k29, IntKind.i64.wrap (s28 + 1)), H⟩, Nat.lt_succ_self _, Less.mk' ⟨rfl, rfl, rfl, rfl, trivial⟩ ⟨rfl, trivial⟩⟩
            replace H := of_f H h33
            refine WC.exit ?_
            refine QT.x (QT.x (QB.hit (QT.n ?_)))
            exact ⟨s28, H, LessW.mk' ⟨AVle.of rfl, AVle.of rfl, AVle.of rfl, AVle.of rfl, trivial⟩ ⟨rfl, trivial⟩⟩
          · replace H := of_f H h30
            refine WL.gskips 6 4 true 84 rfl rfl rfl rfl ?_
            refine WL.pickF rfl rfl rfl rfl rfl rfl ?_
            refine WL.nil ?_
            refine QT.n ?_
            refine WC.cond rfl (fun h => absurd h (by decide)) (fun h => ?_)
            refine WC.exit ?_
            refine QT.x (QT.x (QB.hit (QT.n ?_)))
            exact ⟨s28, H, LessW.mk' ⟨AVle.of rfl, AVle.of rfl, AVle.of rfl, AVle.of rfl, trivial⟩ ⟨rfl, trivial⟩⟩
        · rintro E m ⟨s27, H, hl⟩
          refine WC.lessW hl ?_
          replace H := (hK26 _).symm.trans H
          try dsimp only at H
          refine WC.region ?_
          refine WL.run 2 tt_ok sg0 rfl rfl trivial ?_
          refine WL.nil ?_
          refine QB.n (QT.n ?_)
          exact ⟨⟨(k19, (IntKind.i64.wrap (s18.1 + 1), s27, s27, s18.2.2.2.set s18.1.toNat (a0.extract s18.2.1.toNat s18.2.2.1.toNat))), H⟩, Nat.lt_succ_self _, Less.mk' ⟨rfl, rfl, rfl, rfl, rfl, trivial⟩ ⟨rfl, trivial⟩⟩
      replace H := of_f H h20
      refine WC.exit ?_
      refine QT.x (QT.x (QB.hit (QT.n ?_)))
      exact ⟨(s18.1, s18.2.1, s18.2.2.2), H, LessW.mk' ⟨AVle.of rfl, AVle.of rfl, AVle.of rfl, AVle.of rfl, trivial⟩ ⟨rfl, trivial⟩⟩
    · rintro E m ⟨s17, H, hl⟩
      refine WC.lessW hl ?_
      replace H := (hK16 _).symm.trans H
      try dsimp only at H
      refine WC.seq ?_
      refine WC.seq ?_
      refine WC.region ?_
      refine WL.run 4 tt_ok sg0 rfl rfl trivial ?_
      refine WL.nil ?_
      refine QT.n ?_
      refine WC.cond rfl (fun h34 => ?_) (fun h34 => ?_)
      · replace H := of_t H h34
        refine WC.region ?_
        obtain ⟨g35, H⟩ := of_need H
        refine WL.run 5 tt_ok sg0 rfl rfl ⟨(nTo_ok g35), trivial⟩ ?_
        obtain ⟨g36, H⟩ := of_need H
        refine WL.yv (LJ.Y.idxRel enc_str s17.2.2 s17.1 tt_ok rfl rfl rfl rfl rfl (nIn_ok g36)) rfl rfl rfl ?_
        refine WL.storeRel enc_str s17.2.2 s17.1 0 (a0.extract s17.2.1.toNat a0.size) (.str (a0.extract s17.2.1.toNat a0.size)) rfl rfl rfl rfl (fun _ => rfl) rfl (by kernel_rfl) rfl rfl (by first | exact nIn_ok g36 | (have := nIn_ok g36; simpa only [List.length_set, List.length_map] using this)) rfl rfl rfl rfl ?_
        refine WL.nil ?_
        refine QT.n ?_
        refine WC.seq ?_
        refine WC.region ?_
        refine WL.run 2 tt_ok sg0 rfl rfl trivial ?_
        refine WL.nil ?_
        refine QT.n ?_
        refine WC.freezeT 141 enc_str (s17.2.2.set s17.1.toNat (a0.extract s17.2.1.toNat a0.size)) rfl rfl rfl rfl ?_
        refine WC.ret ?_
        cases H
        exact Ends.auto rfl rfl rfl trivial
      replace H := of_f H h34
      refine WC.skip ?_
      refine QT.n ?_
      refine WC.seq ?_
      refine WC.region ?_
      refine WL.run 2 tt_ok sg0 rfl rfl trivial ?_
      refine WL.nil ?_
      refine QT.n ?_
      refine WC.freezeT 141 enc_str s17.2.2 rfl rfl rfl rfl ?_
      refine WC.ret ?_
      cases H
      exact Ends.auto rfl rfl rfl trivial
theorem strings_Fields_f : hasFunc Tryd.prog 37 Tryd.f37 := ⟨Tryd.func37, rfl, by kernel_rfl⟩

/-! ### logjam/op.Name -/
theorem op_Name_0 (a0 : Int) {r : ByteArray} (H : op_Name a0 = some r) : LJ.Spec Tryd.prog 24 [.d (.int .i64 a0)] [] (.d (.str r)) [] := by
  refine LJ.Spec.code Tryd.func24 rfl 10 rfl rfl [] rfl fun w0 F0 S0 B0 => ?_
  unfold op_Name at H
  refine WC.seq ?_
  refine WC.region ?_
  refine WL.run 1 tt_ok sg0 rfl rfl trivial ?_
  refine WL.nil ?_
  refine QT.n ?_
  refine WC.seq ?_
  refine WC.seq ?_
  refine WC.region ?_
  refine WL.run 1 tt_ok sg0 rfl rfl trivial ?_
  obtain ⟨x1, hx1, H⟩ := of_bind H
  refine WL.call [] (op_known_0 _ hx1) op_known_f rfl rfl trivial rfl rfl rfl ?_
  refine WL.run 1 tt_ok sg0 rfl rfl trivial ?_
  refine WL.nil ?_
  refine QT.n ?_
  refine WC.cond rfl (fun h2 => ?_) (fun h2 => ?_)
  · replace H := of_t H h2
    refine WC.seq ?_
    refine WC.region ?_
    refine WL.run 1 tt_ok sg0 rfl rfl trivial ?_
    refine WL.nil ?_
    refine QT.n ?_
    refine WC.ret ?_
    refine QT.r ?_
    cases H
    exact Ends.auto rfl rfl rfl trivial
  replace H := of_f H h2
  refine WC.skip ?_
  refine QT.n ?_
  refine WC.seq ?_
  refine WC.region ?_
  obtain ⟨x3, hx3, H⟩ := of_bind H
  refine WL.call [] (strings_Fields_0 _ hx3) strings_Fields_f rfl rfl trivial rfl rfl rfl ?_
  obtain ⟨g4, H⟩ := of_need H
  refine WL.run 4 tt_ok sg0 rfl rfl ⟨⟨(nIn_ok g4).1, (nIn_ok g4).2, rfl⟩, trivial⟩ ?_
  refine WL.nil ?_
  refine QT.n ?_
  refine WC.ret ?_
  cases H
  exact Ends.auto rfl rfl rfl trivial
theorem op_Name_f : hasFunc Tryd.prog 24 Tryd.f24 := ⟨Tryd.func24, rfl, by kernel_rfl⟩

/-! ### logjam/op.Form -/
theorem op_Form_0 (a0 : Int) {r : ByteArray} (H : op_Form a0 = some r) : LJ.Spec Tryd.prog 19 [.d (.int .i64 a0)] [] (.d (.str r)) [] := by
  refine LJ.Spec.code Tryd.func19 rfl 14 rfl rfl [] rfl fun w0 F0 S0 B0 => ?_
  unfold op_Form at H
  refine WC.seq ?_
  refine WC.region ?_
  refine WL.run 1 tt_ok sg0 rfl rfl trivial ?_
  refine WL.nil ?_
  refine QT.n ?_
  refine WC.seq ?_
  refine WC.seq ?_
  refine WC.region ?_
  refine WL.run 1 tt_ok sg0 rfl rfl trivial ?_
  obtain ⟨x1, hx1, H⟩ := of_bind H
  refine WL.call [] (op_known_0 _ hx1) op_known_f rfl rfl trivial rfl rfl rfl ?_
  refine WL.run 1 tt_ok sg0 rfl rfl trivial ?_
  refine WL.nil ?_
  refine QT.n ?_
  refine WC.cond rfl (fun h2 => ?_) (fun h2 => ?_)
  · replace H := of_t H h2
    refine WC.seq ?_
    refine WC.region ?_
    refine WL.run 1 tt_ok sg0 rfl rfl trivial ?_
    refine WL.nil ?_
    refine QT.n ?_
    refine WC.ret ?_
    refine QT.r ?_
    cases H
    exact Ends.auto rfl rfl rfl trivial
  replace H := of_f H h2
  refine WC.skip ?_
  refine QT.n ?_
  refine WC.seq ?_
  refine WC.region ?_
  obtain ⟨x3, hx3, H⟩ := of_bind H
  refine WL.call [] (strings_Fields_0 _ hx3) strings_Fields_f rfl rfl trivial rfl rfl rfl ?_
  obtain ⟨g4, H⟩ := of_need H
  refine WL.run 4 tt_ok sg0 rfl rfl ⟨⟨(nIn_ok g4).1, (nIn_ok g4).2, rfl⟩, trivial⟩ ?_
  refine WL.nil ?_
  refine QT.n ?_
  refine WC.seq ?_
  refine WC.seq ?_
  refine WC.region ?_
  refine WL.run 2 tt_ok sg0 rfl rfl trivial ?_
  refine WL.nil ?_
  refine QT.n ?_
  refine WC.cond rfl (fun h5 => ?_) (fun h5 => ?_)
  · replace H := of_t H h5
    refine WC.seq ?_
    refine WC.region ?_
    refine WL.run 1 tt_ok sg0 rfl rfl trivial ?_
    refine WL.nil ?_
    refine QT.n ?_
    refine WC.ret ?_
    refine QT.r ?_
    cases H
    exact Ends.auto rfl rfl rfl trivial
  replace H := of_f H h5
  refine WC.skip ?_
  refine QT.n ?_
  refine WC.seq ?_
  refine WC.region ?_
  refine WL.run 2 tt_ok sg0 rfl rfl trivial ?_
  refine WL.nil ?_
  refine QT.n ?_
  refine WC.ret ?_
  cases H
  exact Ends.auto rfl rfl rfl trivial
theorem op_Form_f : hasFunc Tryd.prog 19 Tryd.f19 := ⟨Tryd.func19, rfl, by kernel_rfl⟩

/-! ### logjam/word.Fits -/
theorem word_Fits_0 (a0 : Int) {r : Bool} (H : word_Fits a0 = some r) : LJ.Spec Tryd.prog 38 [.d (.int .i64 a0)] [] (.d (.bool r)) [] := by
  refine LJ.Spec.code Tryd.func38 rfl 8 rfl rfl [] rfl fun w0 F0 S0 B0 => ?_
  unfold word_Fits at H
  refine WC.seq ?_
  refine WC.region ?_
  refine WL.run 1 tt_ok sg0 rfl rfl trivial ?_
  refine WL.nil ?_
  refine QT.n ?_
  refine WC.seq ?_
  refine WC.region ?_
  refine WL.run 6 tt_ok sg0 rfl rfl trivial ?_
  refine WL.nil ?_
  refine QT.n ?_
  refine WC.ret ?_
  cases H
  exact Ends.auto rfl rfl rfl trivial
theorem word_Fits_f : hasFunc Tryd.prog 38 Tryd.f38 := ⟨Tryd.func38, rfl, by kernel_rfl⟩

/-! ### logjam/ins.in -/
theorem ins_in_0 (a0 : Int) (a1 : Int) {r : Bool} (H : ins_in a0 a1 = some r) : LJ.Spec Tryd.prog 25 [.d (.int .u8 a0), .d (.int .i64 a1)] [] (.d (.bool r)) [] := by
  refine LJ.Spec.code Tryd.func25 rfl 56 rfl rfl [] rfl fun w0 F0 S0 B0 => ?_
  unfold ins_in at H
  refine WC.seq ?_
  refine WC.region ?_
  refine WL.run 1 tt_ok sg0 rfl rfl trivial ?_
  refine WL.nil ?_
  refine QT.n ?_
  refine WC.seq ?_
  refine WC.seq ?_
  refine WC.region ?_
  refine WL.run 1 tt_ok sg0 rfl rfl trivial ?_
  refine WL.nil ?_
  refine QT.n ?_
  refine WC.block ?_
  refine WC.seq ?_
  refine WC.region ?_
  refine WL.run 2 tt_ok sg0 rfl rfl trivial ?_
  refine WL.nil ?_
  refine QT.n ?_
  refine WC.cond rfl (fun h1 => ?_) (fun h1 => ?_)
  · replace H := of_t H h1
    refine WC.seq ?_
    refine WC.region ?_
    refine WL.run 1 tt_ok sg0 rfl rfl trivial ?_
    obtain ⟨x2, hx2, H⟩ := of_bind H
    refine WL.call [] (word_Fits_0 _ hx2) word_Fits_f rfl rfl trivial rfl rfl rfl ?_
    refine WL.run 1 tt_ok sg0 rfl rfl trivial ?_
    refine WL.nil ?_
    refine QT.n ?_
    refine WC.ret ?_
    refine QB.r (QT.r ?_)
    cases H
    exact Ends.auto rfl rfl rfl trivial
  replace H := of_f H h1
  refine WC.seq ?_
  refine WC.region ?_
  refine WL.run 2 tt_ok sg0 rfl rfl trivial ?_
  refine WL.nil ?_
  refine QT.n ?_
  refine WC.cond rfl (fun h3 => ?_) (fun h3 => ?_)
  · replace H := of_t H h3
    refine WC.seq ?_
    refine WC.region ?_
    refine WL.run 3 tt_ok sg0 rfl rfl trivial ?_
    refine WL.sect 2 2 true tt_ok sg0 rfl rfl (fun _ => trivial) ?_
    refine WL.run 2 tt_ok sg0 rfl rfl ⟨by first | exact id | exact fun h => by rw [h]; rfl | simp_all, trivial⟩ ?_
    refine WL.nil ?_
    refine QT.n ?_
    refine WC.ret ?_
    refine QB.r (QT.r ?_)
    cases H
    exact Ends.auto rfl rfl rfl trivial
  replace H := of_f H h3
  refine WC.seq ?_
  refine WC.region ?_
  refine WL.run 2 tt_ok sg0 rfl rfl trivial ?_
  refine WL.nil ?_
  refine QT.n ?_
  refine WC.cond rfl (fun h4 => ?_) (fun h4 => ?_)
  · replace H := of_t H h4
    refine WC.seq ?_
    refine WC.region ?_
    refine WL.run 3 tt_ok sg0 rfl rfl trivial ?_
    refine WL.sect 2 2 true tt_ok sg0 rfl rfl (fun _ => trivial) ?_
    refine WL.run 2 tt_ok sg0 rfl rfl ⟨by first | exact id | exact fun h => by rw [h]; rfl | simp_all, trivial⟩ ?_
    refine WL.nil ?_
    refine QT.n ?_
    refine WC.ret ?_
    refine QB.r (QT.r ?_)
    cases H
    exact Ends.auto rfl rfl rfl trivial
  replace H := of_f H h4
  refine WC.seq ?_
  refine WC.region ?_
  refine WL.run 2 tt_ok sg0 rfl rfl trivial ?_
  refine WL.nil ?_
  refine QT.n ?_
  refine WC.cond rfl (fun h5 => ?_) (fun h5 => ?_)
  · replace H := of_t H h5
    refine WC.seq ?_
    refine WC.region ?_
    refine WL.run 3 tt_ok sg0 rfl rfl trivial ?_
    refine WL.sect 2 2 true tt_ok sg0 rfl rfl (fun _ => trivial) ?_
    refine WL.run 2 tt_ok sg0 rfl rfl ⟨by first | exact id | exact fun h => by rw [h]; rfl | simp_all, trivial⟩ ?_
    refine WL.nil ?_
    refine QT.n ?_
    refine WC.ret ?_
    refine QB.r (QT.r ?_)
    cases H
    exact Ends.auto rfl rfl rfl trivial
  replace H := of_f H h5
  refine WC.seq ?_
  refine WC.region ?_
  refine WL.run 2 tt_ok sg0 rfl rfl trivial ?_
  refine WL.nil ?_
  refine QT.n ?_
  refine WC.cond rfl (fun h6 => ?_) (fun h6 => ?_)
  · replace H := of_t H h6
    refine WC.seq ?_
    refine WC.region ?_
    refine WL.run 3 tt_ok sg0 rfl rfl trivial ?_
    refine WL.sect 2 2 true tt_ok sg0 rfl rfl (fun _ => trivial) ?_
    refine WL.run 2 tt_ok sg0 rfl rfl ⟨by first | exact id | exact fun h => by rw [h]; rfl | simp_all, trivial⟩ ?_
    refine WL.nil ?_
    refine QT.n ?_
    refine WC.ret ?_
    refine QB.r (QT.r ?_)
    cases H
    exact Ends.auto rfl rfl rfl trivial
  replace H := of_f H h6
  refine WC.seq ?_
  refine WC.region ?_
  refine WL.run 2 tt_ok sg0 rfl rfl trivial ?_
  refine WL.nil ?_
  refine QT.n ?_
  refine WC.cond rfl (fun h7 => ?_) (fun h7 => ?_)
  · replace H := of_t H h7
    refine WC.seq ?_
    refine WC.region ?_
    refine WL.run 3 tt_ok sg0 rfl rfl trivial ?_
    refine WL.sect 2 2 true tt_ok sg0 rfl rfl (fun _ => trivial) ?_
    refine WL.run 2 tt_ok sg0 rfl rfl ⟨by first | exact id | exact fun h => by rw [h]; rfl | simp_all, trivial⟩ ?_
    refine WL.nil ?_
    refine QT.n ?_
    refine WC.ret ?_
    refine QB.r (QT.r ?_)
    cases H
    exact Ends.auto rfl rfl rfl trivial
  replace H := of_f H h7
  refine WC.skip ?_
  refine QB.n (QT.n ?_)
  refine WC.seq ?_
  refine WC.region ?_
  refine WL.run 3 tt_ok sg0 rfl rfl trivial ?_
  refine WL.sect 2 2 true tt_ok sg0 rfl rfl (fun _ => trivial) ?_
  refine WL.run 2 tt_ok sg0 rfl rfl ⟨by first | exact id | exact fun h => by rw [h]; rfl | simp_all, trivial⟩ ?_
  refine WL.nil ?_
  refine QT.n ?_
  refine WC.ret ?_
  cases H
  exact Ends.auto rfl rfl rfl trivial
theorem ins_in_f : hasFunc Tryd.prog 25 Tryd.f25 := ⟨Tryd.func25, rfl, by kernel_rfl⟩

/-! ### logjam/ins.Check -/
theorem ins_Check_0 (a0 : T_api_Ins) {r : Int} (H : ins_Check a0 = some r) : LJ.Spec Tryd.prog 9 [.d (.agg [.int .i64 a0.Op, .int .i64 a0.A, .int .i64 a0.B])] [] (.d (.int .i64 r)) [] := by
  refine LJ.Spec.code Tryd.func9 rfl 54 rfl rfl [] rfl fun w0 F0 S0 B0 => ?_
  unfold ins_Check at H
  refine WC.seq ?_
  refine WC.region ?_
  refine WL.eff 101 tt_ok et_ok eg0 rfl rfl rfl trivial ?_
  refine WL.run 1 tt_ok sg0 rfl rfl trivial ?_
  refine WL.nil ?_
  refine QT.n ?_
  refine WC.seq ?_
  refine WC.seq ?_
  refine WC.region ?_
  refine WL.run 2 tt_ok sg0 rfl rfl trivial ?_
  obtain ⟨x1, hx1, H⟩ := of_bind H
  refine WL.call [] (op_Name_0 _ hx1) op_Name_f rfl rfl trivial rfl rfl rfl ?_
  refine WL.run 1 tt_ok sg0 rfl rfl trivial ?_
  refine WL.nil ?_
  refine QT.n ?_
  refine WC.cond rfl (fun h2 => ?_) (fun h2 => ?_)
  · replace H := of_t H h2
    refine WC.seq ?_
    refine WC.region ?_
    refine WL.run 1 tt_ok sg0 rfl rfl trivial ?_
    refine WL.nil ?_
    refine QT.n ?_
    refine WC.ret ?_
    refine QT.r ?_
    cases H
    exact Ends.auto rfl rfl rfl trivial
  replace H := of_f H h2
  refine WC.skip ?_
  refine QT.n ?_
  refine WC.seq ?_
  obtain ⟨x3_2_1, hx3_2_1, H⟩ := of_bind H
  refine WC.heldF [(1, .ptr 101 0), (3, .d (.str x3_2_1)), (4, .ptr 104 0)] [(101, .box 23 [.d (.int .i64 a0.Op), .d (.int .i64 a0.A), .d (.int .i64 a0.B)]), (104, .box 46 [.d (.int .i64 a0.A), .d (.int .i64 a0.B)])] (.one 0 true (.one 1 true (.one 3 true (.one 4 true (.one 5 true (.one 6 true (.one 7 true (.fork (.one 2 false (.one 8 false (.one 9 true (.one 10 false .done)))) (.one 8 false (.one 2 false (.one 9 true (.one 10 false .done)))))))))))) [101] [101] rfl (by kernel_rfl) rfl (by kernel_rfl) rfl rfl (fun _ h => h) rfl rfl rfl (fun FK NK wK K => ?_) ?_
  · refine WH.run 6 tt_ok rfl rfl rfl rfl trivial ?_
    refine WH.yv rfl (LJ.Y.buildArr 2 [.int .i64 0, .int .i64 0] [.int .i64 a0.A, .int .i64 a0.B] (by kernel_rfl) (by kernel_rfl) rfl rfl rfl) rfl rfl rfl ?_
    refine WH.fork ?_ ?_
    · refine WH.call [] rfl (op_Form_0 _ hx3_2_1) op_Form_f rfl rfl trivial rfl rfl rfl rfl rfl ?_
      refine WH.allocZ 104 [.int .i64 0, .int .i64 0] rfl rfl (by kernel_rfl) rfl rfl rfl rfl rfl rfl ?_
      refine WH.run 1 tt_ok rfl rfl rfl rfl trivial ?_
      refine WH.eff 0 tt_ok et_ok rfl rfl rfl rfl trivial rfl rfl ?_
      exact WH.nilF rfl (LessW.mk' ⟨AVle.of rfl, AVle.of rfl, AVle.of rfl, trivial⟩ ⟨rfl, rfl, trivial⟩)
    · refine WH.allocZ 104 [.int .i64 0, .int .i64 0] rfl rfl (by kernel_rfl) rfl rfl rfl rfl rfl rfl ?_
      refine WH.call [] rfl (op_Form_0 _ hx3_2_1) op_Form_f rfl rfl trivial rfl rfl rfl rfl rfl ?_
      refine WH.run 1 tt_ok rfl rfl rfl rfl trivial ?_
      refine WH.eff 0 tt_ok et_ok rfl rfl rfl rfl trivial rfl rfl ?_
      exact WH.nilF rfl (LessW.mk' ⟨AVle.of rfl, AVle.of rfl, AVle.of rfl, trivial⟩ ⟨rfl, rfl, trivial⟩)
  · refine QT.n ?_
    refine WC.seq ?_
    refine WC.seq ?_
    refine WC.region ?_
    refine WL.run 3 tt_ok sg0 rfl rfl trivial ?_
    refine WL.nil ?_
    refine QT.n ?_
    refine WC.block ?_
    refine WC.loop (ι := {x : Nat × Int // ins_Check_l4 a0 x3_2_1 x.1 x.2 = some r}) (fun x => [(1, .ptr 101 0), (3, .d (.str x3_2_1)), (4, .ptr 104 0), (21, .d (.int .i64 (x3_2_1.size : Int))), (22, .d (.int .i64 x.1.2))]) (fun x => [(101, .box 23 [.d (.int .i64 a0.Op), .d (.int .i64 a0.A), .d (.int .i64 a0.B)]), (104, .box 46 [.d (.int .i64 a0.A), .d (.int .i64 a0.B)])]) (fun x => x.1.1) ⟨(fuel, 0), H⟩ (Less.mk' ⟨rfl, rfl, rfl, rfl, rfl, trivial⟩ ⟨rfl, rfl, trivial⟩) fun x => ?_
    obtain ⟨⟨k4, s3⟩, H⟩ := x
    rcases k4 with _ | k4
    · exact of_none H
    rw [ins_Check_l4] at H
    refine WC.seq ?_
    refine WC.region ?_
    refine WL.run 1 tt_ok sg0 rfl rfl trivial ?_
    refine WL.nil ?_
    refine QT.n ?_
    refine WC.seq ?_
    refine WC.cond rfl (fun h5 => ?_) (fun h5 => ?_)
    · replace H := of_t H h5
      refine WC.skip ?_
      refine QT.n ?_
      refine WC.seq ?_
      refine WC.block ?_
      refine WC.seq ?_
      refine WC.region ?_
      refine WL.run 2 tt_ok sg0 rfl rfl trivial ?_
      refine WL.nil ?_
      refine QT.n ?_
      refine WC.seq ?_
      refine WC.heldP (.one 0 true (.one 1 true (.one 2 true (.one 3 true (.one 4 true (.one 5 true (.one 6 false (.one 7 true .done)))))))) [101, 104] [101, 104] rfl (by kernel_rfl) rfl (by kernel_rfl) rfl rfl (fun _ h => h) rfl rfl rfl (fun _ _ _ h => h) fun FK NK wK K => ?_
      obtain ⟨g6, H⟩ := of_need H
      refine WH.run 4 tt_ok rfl rfl rfl rfl ⟨(nIn_ok g6), trivial⟩ ?_
      obtain ⟨g7, H⟩ := of_need H
      refine WH.yv rfl (LJ.Y.idxPtrA 2 s3 (by kernel_rfl) rfl rfl rfl (nIn_ok g7)) rfl rfl rfl ?_
      refine WH.yv rfl (LJ.Y.loadPtrA 2 0 (fun k => .int .i64 (([a0.A, a0.B] : List Int).getD k default)) s3 rfl rfl rfl (by kernel_rfl) rfl (nIn_ok g7)) rfl rfl rfl ?_
      obtain ⟨x8, hx8, H⟩ := of_bind H
      refine WH.call [] rfl (ins_in_0 _ _ hx8) ins_in_f rfl rfl trivial rfl rfl rfl rfl rfl ?_
      refine WH.run 1 tt_ok rfl rfl rfl rfl trivial ?_
      refine WH.nil rfl ?_
      refine QT.n ?_
      refine WC.cond rfl (fun h9 => ?_) (fun h9 => ?_)
      · replace H := of_t H h9
        refine WC.seq ?_
        refine WC.region ?_
        refine WL.run 1 tt_ok sg0 rfl rfl trivial ?_
        refine WL.nil ?_
        refine QT.n ?_
        refine WC.ret ?_
        refine QB.r (QT.r (QT.r (QB.r (QT.r ?_))))
        cases H
        exact Ends.auto rfl rfl rfl trivial
      replace H := of_f H h9
      refine WC.skip ?_
      refine QB.n (QT.n ?_)
      refine WC.region ?_
      refine WL.run 2 tt_ok sg0 rfl rfl trivial ?_
      refine WL.nil ?_
      refine QT.n ?_
      exact ⟨⟨(k4, IntKind.i64.wrap (s3 + 1)), H⟩, Nat.lt_succ_self _, Less.mk' ⟨rfl, rfl, rfl, rfl, rfl, trivial⟩ ⟨rfl, rfl, trivial⟩⟩
    replace H := of_f H h5
    refine WC.exit ?_
    refine QT.x (QT.x (QB.hit (QT.n ?_)))
    refine WC.seq ?_
    refine WC.seq ?_
    refine WC.region ?_
    refine WL.run 3 tt_ok sg0 rfl rfl trivial ?_
    refine WL.sect 5 2 true tt_ok sg0 rfl rfl (fun _ => trivial) ?_
    refine WL.run 1 tt_ok sg0 rfl rfl ⟨by first | exact id | exact fun h => by rw [h]; rfl | simp_all, trivial⟩ ?_
    refine WL.nil ?_
    refine QT.n ?_
    refine WC.cond rfl (fun h10 => ?_) (fun h10 => ?_)
    · replace H := of_t H h10
      refine WC.seq ?_
      refine WC.region ?_
      refine WL.run 1 tt_ok sg0 rfl rfl trivial ?_
      refine WL.nil ?_
      refine QT.n ?_
      refine WC.ret ?_
      refine QT.r ?_
      cases H
      exact Ends.auto rfl rfl rfl trivial
    replace H := of_f H h10
    refine WC.skip ?_
    refine QT.n ?_
    refine WC.seq ?_
    refine WC.seq ?_
    refine WC.region ?_
    refine WL.run 2 tt_ok sg0 rfl rfl trivial ?_
    obtain ⟨g11, H⟩ := of_need H
    refine WL.yv (LJ.Y.slicePsl 2 (x3_2_1.size : Int) ((2 : Nat) : Int) (by kernel_rfl) rfl rfl ⟨_, rfl⟩ rfl (nSl_ok g11)) rfl rfl rfl ?_
    refine WL.yv (LJ.Y.lenPsl tt_ok rfl rfl rfl) rfl rfl rfl ?_
    refine WL.run 1 tt_ok sg0 rfl rfl trivial ?_
    refine WL.nil ?_
    refine QT.n ?_
    refine WC.block ?_
    refine WC.loop (ι := {x : Nat × Int // ins_Check_l13 a0 x3_2_1 x.1 x.2 = some r}) (fun x => [(45, .psl 104 (0 + (x3_2_1.size : Int).toNat) (((2 : Nat) : Int) - (x3_2_1.size : Int)).toNat (2 - (x3_2_1.size : Int).toNat)), (46, .d (.int .i64 ((((2 : Nat) : Int) - (x3_2_1.size : Int)).toNat : Int))), (47, .d (.int .i64 x.1.2))]) (fun x => [(104, .box 46 [.d (.int .i64 a0.A), .d (.int .i64 a0.B)])]) (fun x => x.1.1) ⟨(fuel, 0), H⟩ (Less.mk' ⟨rfl, rfl, rfl, trivial⟩ ⟨rfl, trivial⟩) fun x => ?_
    obtain ⟨⟨k13, s12⟩, H⟩ := x
    rcases k13 with _ | k13
    · exact of_none H
    rw [ins_Check_l13] at H
    refine WC.seq ?_
    refine WC.region ?_
    refine WL.run 1 tt_ok sg0 rfl rfl trivial ?_
    refine WL.nil ?_
    refine QT.n ?_
    refine WC.seq ?_
    refine WC.cond rfl (fun h14 => ?_) (fun h14 => ?_)
    · replace H := of_t H h14
      refine WC.skip ?_
      refine QT.n ?_
      refine WC.seq ?_
      refine WC.block ?_
      refine WC.seq ?_
      refine WC.region ?_
      obtain ⟨g15, H⟩ := of_need H
      obtain ⟨g16, H⟩ := of_need H
      obtain ⟨g17, H⟩ := of_need H
      refine WL.yv (LJ.Y.idxPsl (x3_2_1.size : Int) s12 0 tt_ok rfl rfl rfl rfl (nNn_ok g15) (nIn_ok g16)) rfl rfl rfl ?_
      refine WL.yv (LJ.Y.loadPtrA 2 0 (fun k => .int .i64 (([a0.A, a0.B] : List Int).getD k default)) ((x3_2_1.size : Int) + s12) rfl rfl rfl (by kernel_rfl) rfl (nIn_ok g17)) rfl rfl rfl ?_
      refine WL.run 1 tt_ok sg0 rfl rfl trivial ?_
      refine WL.nil ?_
      refine QT.n ?_
      refine WC.seq ?_
      refine WC.region ?_
      refine WL.run 2 tt_ok sg0 rfl rfl trivial ?_
      refine WL.nil ?_
      refine QT.n ?_
      refine WC.cond rfl (fun h18 => ?_) (fun h18 => ?_)
      · replace H := of_t H h18
        refine WC.seq ?_
        refine WC.region ?_
        refine WL.run 1 tt_ok sg0 rfl rfl trivial ?_
        refine WL.nil ?_
        refine QT.n ?_
        refine WC.ret ?_
        refine QB.r (QT.r (QT.r (QB.r (QT.r ?_))))
        cases H
        exact Ends.auto rfl rfl rfl trivial
      replace H := of_f H h18
      refine WC.skip ?_
      refine QB.n (QT.n ?_)
      refine WC.region ?_
      refine WL.run 2 tt_ok sg0 rfl rfl trivial ?_
      refine WL.nil ?_
      refine QT.n ?_
      exact ⟨⟨(k13, IntKind.i64.wrap (s12 + 1)), H⟩, Nat.lt_succ_self _, Less.mk' ⟨rfl, rfl, rfl, trivial⟩ ⟨rfl, trivial⟩⟩
    replace H := of_f H h14
    refine WC.exit ?_
    refine QT.x (QT.x (QB.hit (QT.n ?_)))
    refine WC.seq ?_
    refine WC.region ?_
    refine WL.run 1 tt_ok sg0 rfl rfl trivial ?_
    refine WL.nil ?_
    refine QT.n ?_
    refine WC.ret ?_
    cases H
    exact Ends.auto rfl rfl rfl trivial
theorem ins_Check_f : hasFunc Tryd.prog 9 Tryd.f9 := ⟨Tryd.func9, rfl, by kernel_rfl⟩

/-! ### (*logjam/octet.Out).Byte -/
theorem octet_Out_Byte_0 (a0 : T_octet_Out) (a1 : Int) {r : T_octet_Out} (H : octet_Out_Byte a0 a1 = some r) : LJ.Spec Tryd.prog 20 [.ptr 0 0, .d (.int .i64 a1)] [(0, .box 45 [.own 1]), (1, .row 5 1 (rowOf a0.b))] (.tup []) [(1, .row 5 1 (rowOf r.b)), (0, .box 45 [.own 1])] := by
  refine LJ.Spec.code Tryd.func20 rfl 17 rfl rfl [0] rfl fun w0 F0 S0 B0 => ?_
  unfold octet_Out_Byte at H
  refine WC.seq ?_
  refine WC.region ?_
  refine WL.run 2 tt_ok sg0 rfl rfl trivial ?_
  refine WL.nil ?_
  refine QT.n ?_
  refine WC.cond rfl (fun h => ?_) (fun h => absurd h (by decide))
  refine WC.region ?_
  refine WL.run 7 tt_ok sg0 rfl rfl trivial ?_
  refine WL.eff 113 tt_ok et_ok eg0 rfl rfl rfl trivial ?_
  obtain ⟨g1, H⟩ := of_need H
  obtain ⟨g2, H⟩ := of_need H
  refine WL.eff 0 tt_ok et_ok eg0 rfl rfl rfl (appOK_bytes rfl (nCap_ok g1)) ?_
  refine WL.row 1 (rowOf (a0.b.push (UInt8.ofNat (IntKind.u8.wrap a1).toNat))) rfl (rowOf_one (nIn_ok g2).1 (nIn_ok g2).2) rfl ?_
  refine WL.run 2 tt_ok sg0 rfl rfl trivial ?_
  refine WL.eff 0 tt_ok et_ok eg0 rfl rfl rfl trivial ?_
  refine WL.nil ?_
  cases H
  exact Ends.auton rfl rfl rfl ⟨rfl, rfl, trivial⟩
theorem octet_Out_Byte_s (n0 n1 : Nat) (hn : nodupB [n0, n1] = true) (a0 : T_octet_Out) (a1 : Int) {r : T_octet_Out} (H : octet_Out_Byte a0 a1 = some r) : LJ.Spec Tryd.prog 20 [.ptr n0 0, .d (.int .i64 a1)] [(n0, .box 45 [.own n1]), (n1, .row 5 1 (rowOf a0.b))] (.tup []) [(n1, .row 5 1 (rowOf r.b)), (n0, .box 45 [.own n1])] :=
  Spec.names [n0, n1] hn rfl rfl (octet_Out_Byte_0 a0 a1 H)
theorem octet_Out_Byte_f : hasFunc Tryd.prog 20 Tryd.f20 := ⟨Tryd.func20, rfl, by kernel_rfl⟩

/-! ### (*logjam/octet.Out).Num -/
theorem octet_Out_Num_0 (a0 : T_octet_Out) (a1 : Int) {r : T_octet_Out} (H : octet_Out_Num a0 a1 = some r) : LJ.Spec Tryd.prog 22 [.ptr 0 0, .d (.int .u64 a1)] [(0, .box 45 [.own 1]), (1, .row 5 1 (rowOf a0.b))] (.tup []) [(1, .row 5 1 (rowOf r.b)), (0, .box 45 [.own 1])] := by
  refine LJ.Spec.code Tryd.func22 rfl 33 rfl rfl [0] rfl fun w0 F0 S0 B0 => ?_
  unfold octet_Out_Num at H
  refine WC.seq ?_
  refine WC.seq ?_
  refine WC.region ?_
  refine WL.run 2 tt_ok sg0 rfl rfl trivial ?_
  refine WL.nil ?_
  refine QT.n ?_
  refine WC.cond rfl (fun h => absurd h (by decide)) (fun h => ?_)
  refine WC.skip ?_
  refine QT.n ?_
  obtain ⟨K1, hK1, H⟩ := of_withK H
  refine WC.cut (fun E m => ∃ s2 : Int × ByteArray, K1 s2 = some r ∧ LessW E m [(0, .ptr 0 0), (1, .d (.int .u64 s2.1))] [(0, .box 45 [.own 1]), (1, .row 5 1 (rowOf s2.2))]) ?_ ?_
  · refine WC.block ?_
    refine WC.loop (ι := {x : Nat × (Int × ByteArray) // octet_Out_Num_l4 K1 x.1 x.2 = some r}) (fun x => [(0, .ptr 0 0), (1, .d (.int .u64 x.1.2.1))]) (fun x => [(0, .box 45 [.own 1]), (1, .row 5 1 (rowOf x.1.2.2))]) (fun x => x.1.1) ⟨(fuel, (a1, a0.b)), H⟩ (Less.mk' ⟨rfl, rfl, trivial⟩ ⟨rfl, rfl, trivial⟩) fun x => ?_
    obtain ⟨⟨k4, s3⟩, H⟩ := x
    rcases k4 with _ | k4
    · exact of_none H
    rw [octet_Out_Num_l4] at H
    refine WC.seq ?_
    refine WC.seq ?_
    refine WC.region ?_
    refine WL.run 2 tt_ok sg0 rfl rfl trivial ?_
    refine WL.nil ?_
    refine QT.n ?_
    refine WC.cond rfl (fun h5 => ?_) (fun h5 => ?_)
    · replace H := of_t H h5
      refine WC.skip ?_
      refine QT.n ?_
      refine WC.block ?_
      refine WC.seq ?_
      refine WC.region ?_
      refine WL.run 8 tt_ok sg0 rfl rfl trivial ?_
      refine WL.eff 116 tt_ok et_ok eg0 rfl rfl rfl trivial ?_
      obtain ⟨g6, H⟩ := of_need H
      obtain ⟨g7, H⟩ := of_need H
      refine WL.eff 0 tt_ok et_ok eg0 rfl rfl rfl (appOK_bytes rfl (nCap_ok g6)) ?_
      refine WL.row 1 (rowOf (s3.2.push (UInt8.ofNat (Go.bits .or .u8 (IntKind.u8.wrap s3.1) 128).toNat))) rfl (rowOf_one (nIn_ok g7).1 (nIn_ok g7).2) rfl ?_
      refine WL.run 2 tt_ok sg0 rfl rfl trivial ?_
      refine WL.eff 0 tt_ok et_ok eg0 rfl rfl rfl trivial ?_
      refine WL.nil ?_
      refine QT.n ?_
      refine WC.region ?_
      refine WL.run 3 tt_ok sg0 rfl rfl trivial ?_
      refine WL.nil ?_
      refine QB.n (QT.n ?_)
      exact ⟨⟨(k4, (s3.1 / 2 ^ min (7 : Int).toNat IntKind.u64.bits, s3.2.push (UInt8.ofNat (Go.bits .or .u8 (IntKind.u8.wrap s3.1) 128).toNat))), H⟩, Nat.lt_succ_self _, Less.mk' ⟨rfl, rfl, trivial⟩ ⟨rfl, rfl, trivial⟩⟩
    replace H := of_f H h5
    refine WC.exit ?_
    refine QT.x (QT.x (QB.hit (QT.n ?_)))
    exact ⟨(s3.1, s3.2), H, LessW.mk' ⟨AVle.of rfl, AVle.of rfl, trivial⟩ ⟨rfl, rfl, trivial⟩⟩
  · rintro E m ⟨s2, H, hl⟩
    refine WC.lessW hl ?_
    replace H := (hK1 _).symm.trans H
    try dsimp only at H
    refine WC.region ?_
    refine WL.run 7 tt_ok sg0 rfl rfl trivial ?_
    refine WL.eff 129 tt_ok et_ok eg0 rfl rfl rfl trivial ?_
    obtain ⟨g8, H⟩ := of_need H
    obtain ⟨g9, H⟩ := of_need H
    refine WL.eff 0 tt_ok et_ok eg0 rfl rfl rfl (appOK_bytes rfl (nCap_ok g8)) ?_
    refine WL.row 1 (rowOf (s2.2.push (UInt8.ofNat (IntKind.u8.wrap s2.1).toNat))) rfl (rowOf_one (nIn_ok g9).1 (nIn_ok g9).2) rfl ?_
    refine WL.run 2 tt_ok sg0 rfl rfl trivial ?_
    refine WL.eff 0 tt_ok et_ok eg0 rfl rfl rfl trivial ?_
    refine WL.nil ?_
    cases H
    exact Ends.auton rfl rfl rfl ⟨rfl, rfl, trivial⟩
theorem octet_Out_Num_s (n0 n1 : Nat) (hn : nodupB [n0, n1] = true) (a0 : T_octet_Out) (a1 : Int) {r : T_octet_Out} (H : octet_Out_Num a0 a1 = some r) : LJ.Spec Tryd.prog 22 [.ptr n0 0, .d (.int .u64 a1)] [(n0, .box 45 [.own n1]), (n1, .row 5 1 (rowOf a0.b))] (.tup []) [(n1, .row 5 1 (rowOf r.b)), (n0, .box 45 [.own n1])] :=
  Spec.names [n0, n1] hn rfl rfl (octet_Out_Num_0 a0 a1 H)
theorem octet_Out_Num_f : hasFunc Tryd.prog 22 Tryd.f22 := ⟨Tryd.func22, rfl, by kernel_rfl⟩

/-! ### (*logjam/octet.Out).Int -/
theorem octet_Out_Int_0 (a0 : T_octet_Out) (a1 : Int) {r : T_octet_Out} (H : octet_Out_Int a0 a1 = some r) : LJ.Spec Tryd.prog 21 [.ptr 0 0, .d (.int .i64 a1)] [(0, .box 45 [.own 1]), (1, .row 5 1 (rowOf a0.b))] (.tup []) [(1, .row 5 1 (rowOf r.b)), (0, .box 45 [.own 1])] := by
  refine LJ.Spec.code Tryd.func21 rfl 13 rfl rfl [0] rfl fun w0 F0 S0 B0 => ?_
  unfold octet_Out_Int at H
  refine WC.region ?_
  refine WL.run 8 tt_ok sg0 rfl rfl trivial ?_
  obtain ⟨x1, hx1, H⟩ := of_bind H
  refine WL.call [1] (octet_Out_Num_s 0 1 rfl _ _ hx1) octet_Out_Num_f rfl rfl ⟨rfl, rfl, trivial⟩ rfl rfl rfl ?_
  refine WL.nil ?_
  cases H
  exact Ends.auton rfl rfl rfl ⟨rfl, rfl, trivial⟩
theorem octet_Out_Int_s (n0 n1 : Nat) (hn : nodupB [n0, n1] = true) (a0 : T_octet_Out) (a1 : Int) {r : T_octet_Out} (H : octet_Out_Int a0 a1 = some r) : LJ.Spec Tryd.prog 21 [.ptr n0 0, .d (.int .i64 a1)] [(n0, .box 45 [.own n1]), (n1, .row 5 1 (rowOf a0.b))] (.tup []) [(n1, .row 5 1 (rowOf r.b)), (n0, .box 45 [.own n1])] :=
  Spec.names [n0, n1] hn rfl rfl (octet_Out_Int_0 a0 a1 H)
theorem octet_Out_Int_f : hasFunc Tryd.prog 21 Tryd.f21 := ⟨Tryd.func21, rfl, by kernel_rfl⟩

/-! ### (*logjam/octet.Out).Done -/
theorem octet_Out_Done_0 (a0 : T_octet_Out) {r : ByteArray} (H : octet_Out_Done a0 = some r) : LJ.Spec Tryd.prog 23 [.ptr 0 0] [(0, .box 45 [.own 1]), (1, .row 5 1 (rowOf a0.b))] (.d (.str r)) [(1, .row 5 1 (rowOf a0.b)), (0, .box 45 [.own 1])] := by
  refine LJ.Spec.code Tryd.func23 rfl 10 rfl rfl [0] rfl fun w0 F0 S0 B0 => ?_
  unfold octet_Out_Done at H
  refine WC.seq ?_
  refine WC.region ?_
  refine WL.run 1 tt_ok sg0 rfl rfl trivial ?_
  refine WL.nil ?_
  refine QT.n ?_
  refine WC.seq ?_
  refine WC.seq ?_
  refine WC.region ?_
  refine WL.run 2 tt_ok sg0 rfl rfl trivial ?_
  refine WL.nil ?_
  refine QT.n ?_
  refine WC.cond rfl (fun h => absurd h (by decide)) (fun h => ?_)
  refine WC.skip ?_
  refine QT.n ?_
  refine WC.seq ?_
  refine WC.region ?_
  refine WL.run 4 tt_ok sg0 rfl rfl trivial ?_
  refine WL.ownStr a0.b tt_ok rfl rfl rfl rfl ?_
  refine WL.run 1 tt_ok sg0 rfl rfl trivial ?_
  refine WL.nil ?_
  refine QT.n ?_
  refine WC.ret ?_
  cases H
  exact Ends.auto rfl rfl rfl ⟨rfl, rfl, trivial⟩
theorem octet_Out_Done_s (n0 n1 : Nat) (hn : nodupB [n0, n1] = true) (a0 : T_octet_Out) {r : ByteArray} (H : octet_Out_Done a0 = some r) : LJ.Spec Tryd.prog 23 [.ptr n0 0] [(n0, .box 45 [.own n1]), (n1, .row 5 1 (rowOf a0.b))] (.d (.str r)) [(n1, .row 5 1 (rowOf a0.b)), (n0, .box 45 [.own n1])] :=
  Spec.names [n0, n1] hn rfl rfl (octet_Out_Done_0 a0 H)
theorem octet_Out_Done_f : hasFunc Tryd.prog 23 Tryd.f23 := ⟨Tryd.func23, rfl, by kernel_rfl⟩

/-! ### logjam/ins.Put -/
theorem ins_Put_0 (a0 : T_api_Ins) {r : ByteArray × Int} (H : ins_Put a0 = some r) : LJ.Spec Tryd.prog 8 [.d (.agg [.int .i64 a0.Op, .int .i64 a0.A, .int .i64 a0.B])] [] (.tup [.d (.str r.1), .d (.int .i64 r.2)]) [] := by
  refine LJ.Spec.code Tryd.func8 rfl 51 rfl rfl [] rfl fun w0 F0 S0 B0 => ?_
  unfold ins_Put at H
  refine WC.seq ?_
  refine WC.region ?_
  refine WL.eff 101 tt_ok et_ok eg0 rfl rfl rfl trivial ?_
  refine WL.run 2 tt_ok sg0 rfl rfl trivial ?_
  refine WL.nil ?_
  refine QT.n ?_
  refine WC.seq ?_
  refine WC.seq ?_
  refine WC.region ?_
  refine WL.run 1 tt_ok sg0 rfl rfl trivial ?_
  obtain ⟨x1, hx1, H⟩ := of_bind H
  refine WL.call [] (ins_Check_0 _ hx1) ins_Check_f rfl rfl trivial rfl rfl rfl ?_
  refine WL.run 1 tt_ok sg0 rfl rfl trivial ?_
  refine WL.nil ?_
  refine QT.n ?_
  refine WC.seq ?_
  refine WC.region ?_
  refine WL.run 2 tt_ok sg0 rfl rfl trivial ?_
  refine WL.nil ?_
  refine QT.n ?_
  refine WC.cond rfl (fun h2 => ?_) (fun h2 => ?_)
  · replace H := of_t H h2
    refine WC.seq ?_
    refine WC.region ?_
    refine WL.run 3 tt_ok sg0 rfl rfl trivial ?_
    refine WL.nil ?_
    refine QT.n ?_
    refine WC.ret ?_
    refine QT.r ?_
    cases H
    exact Ends.auto rfl rfl rfl trivial
  replace H := of_f H h2
  refine WC.skip ?_
  refine QT.n ?_
  refine WC.seq ?_
  obtain ⟨x4_4_1, hx4_4_1, H⟩ := of_bind H
  refine WC.heldF [(1, .ptr 101 0), (5, .ptr 115 0), (6, .d (.str x4_4_1)), (7, .ptr 107 0)] [(101, .box 23 [.d (.int .i64 a0.Op), .d (.int .i64 a0.A), .d (.int .i64 a0.B)]), (107, .box 46 [.d (.int .i64 a0.A), .d (.int .i64 a0.B)]), (115, .box 45 [.d (.nils)])] (.one 0 true (.one 2 true (.one 3 true (.one 5 true (.one 6 true (.one 7 true (.one 8 true (.one 9 true (.fork (.one 1 false (.fork (.one 4 false (.one 10 false (.one 11 true (.one 12 true (.one 13 false .done))))) (.one 10 false (.one 4 false (.one 11 true (.one 12 true (.one 13 false .done))))))) (.fork (.one 4 false (.fork (.one 1 false (.one 10 false (.one 11 true (.one 12 true (.one 13 false .done))))) (.one 10 false (.one 1 false (.one 11 true (.one 12 true (.one 13 false .done))))))) (.one 10 false (.fork (.one 1 false (.one 4 false (.one 11 true (.one 12 true (.one 13 false .done))))) (.one 4 false (.one 1 false (.one 11 true (.one 12 true (.one 13 false .done))))))))))))))))) [101] [101] rfl (by kernel_rfl) rfl (by kernel_rfl) rfl rfl (fun _ h => h) rfl rfl rfl (fun FK NK wK K => ?_) ?_
  · refine WH.run 7 tt_ok rfl rfl rfl rfl trivial ?_
    refine WH.yv rfl (LJ.Y.buildArr 2 [.int .i64 0, .int .i64 0] [.int .i64 a0.A, .int .i64 a0.B] (by kernel_rfl) (by kernel_rfl) rfl rfl rfl) rfl rfl rfl ?_
    refine WH.fork ?_ (WH.fork ?_ ?_)
    · refine WH.eff 115 tt_ok et_ok rfl rfl rfl rfl trivial rfl rfl ?_
      refine WH.fork ?_ ?_
      · refine WH.call [] rfl (op_Form_0 _ hx4_4_1) op_Form_f rfl rfl trivial rfl rfl rfl rfl rfl ?_
        refine WH.allocZ 107 [.int .i64 0, .int .i64 0] rfl rfl (by kernel_rfl) rfl rfl rfl rfl rfl rfl ?_
        refine WH.mv rfl rfl rfl rfl rfl rfl rfl rfl rfl ?_
        refine WH.run 1 tt_ok rfl rfl rfl rfl trivial ?_
        refine WH.eff 0 tt_ok et_ok rfl rfl rfl rfl trivial rfl rfl ?_
        exact WH.nilF rfl (LessW.mk' ⟨AVle.of rfl, AVle.of rfl, AVle.of rfl, AVle.of rfl, trivial⟩ ⟨rfl, rfl, rfl, trivial⟩)
      · refine WH.allocZ 107 [.int .i64 0, .int .i64 0] rfl rfl (by kernel_rfl) rfl rfl rfl rfl rfl rfl ?_
        refine WH.call [] rfl (op_Form_0 _ hx4_4_1) op_Form_f rfl rfl trivial rfl rfl rfl rfl rfl ?_
        refine WH.mv rfl rfl rfl rfl rfl rfl rfl rfl rfl ?_
        refine WH.run 1 tt_ok rfl rfl rfl rfl trivial ?_
        refine WH.eff 0 tt_ok et_ok rfl rfl rfl rfl trivial rfl rfl ?_
        exact WH.nilF rfl (LessW.mk' ⟨AVle.of rfl, AVle.of rfl, AVle.of rfl, AVle.of rfl, trivial⟩ ⟨rfl, rfl, rfl, trivial⟩)
    · refine WH.call [] rfl (op_Form_0 _ hx4_4_1) op_Form_f rfl rfl trivial rfl rfl rfl rfl rfl ?_
      refine WH.fork ?_ ?_
      · refine WH.eff 115 tt_ok et_ok rfl rfl rfl rfl trivial rfl rfl ?_
        refine WH.allocZ 107 [.int .i64 0, .int .i64 0] rfl rfl (by kernel_rfl) rfl rfl rfl rfl rfl rfl ?_
        refine WH.mv rfl rfl rfl rfl rfl rfl rfl rfl rfl ?_
        refine WH.run 1 tt_ok rfl rfl rfl rfl trivial ?_
        refine WH.eff 0 tt_ok et_ok rfl rfl rfl rfl trivial rfl rfl ?_
        exact WH.nilF rfl (LessW.mk' ⟨AVle.of rfl, AVle.of rfl, AVle.of rfl, AVle.of rfl, trivial⟩ ⟨rfl, rfl, rfl, trivial⟩)
      · refine WH.allocZ 107 [.int .i64 0, .int .i64 0] rfl rfl (by kernel_rfl) rfl rfl rfl rfl rfl rfl ?_
        refine WH.eff 115 tt_ok et_ok rfl rfl rfl rfl trivial rfl rfl ?_
        refine WH.mv rfl rfl rfl rfl rfl rfl rfl rfl rfl ?_
        refine WH.run 1 tt_ok rfl rfl rfl rfl trivial ?_
        refine WH.eff 0 tt_ok et_ok rfl rfl rfl rfl trivial rfl rfl ?_
        exact WH.nilF rfl (LessW.mk' ⟨AVle.of rfl, AVle.of rfl, AVle.of rfl, AVle.of rfl, trivial⟩ ⟨rfl, rfl, rfl, trivial⟩)
    · refine WH.allocZ 107 [.int .i64 0, .int .i64 0] rfl rfl (by kernel_rfl) rfl rfl rfl rfl rfl rfl ?_
      refine WH.fork ?_ ?_
      · refine WH.eff 115 tt_ok et_ok rfl rfl rfl rfl trivial rfl rfl ?_
        refine WH.call [] rfl (op_Form_0 _ hx4_4_1) op_Form_f rfl rfl trivial rfl rfl rfl rfl rfl ?_
        refine WH.mv rfl rfl rfl rfl rfl rfl rfl rfl rfl ?_
        refine WH.run 1 tt_ok rfl rfl rfl rfl trivial ?_
        refine WH.eff 0 tt_ok et_ok rfl rfl rfl rfl trivial rfl rfl ?_
        exact WH.nilF rfl (LessW.mk' ⟨AVle.of rfl, AVle.of rfl, AVle.of rfl, AVle.of rfl, trivial⟩ ⟨rfl, rfl, rfl, trivial⟩)
      · refine WH.call [] rfl (op_Form_0 _ hx4_4_1) op_Form_f rfl rfl trivial rfl rfl rfl rfl rfl ?_
        refine WH.eff 115 tt_ok et_ok rfl rfl rfl rfl trivial rfl rfl ?_
        refine WH.mv rfl rfl rfl rfl rfl rfl rfl rfl rfl ?_
        refine WH.run 1 tt_ok rfl rfl rfl rfl trivial ?_
        refine WH.eff 0 tt_ok et_ok rfl rfl rfl rfl trivial rfl rfl ?_
        exact WH.nilF rfl (LessW.mk' ⟨AVle.of rfl, AVle.of rfl, AVle.of rfl, AVle.of rfl, trivial⟩ ⟨rfl, rfl, rfl, trivial⟩)
  · refine QT.n ?_
    refine WC.seq ?_
    refine WC.region ?_
    refine WL.run 3 tt_ok sg0 rfl rfl trivial ?_
    refine WL.nilF 115 0 4150 5 1 rfl ?_
    refine WL.row 4150 (rowOf ByteArray.empty) rfl rfl rfl ?_
    obtain ⟨x3, hx3, H⟩ := of_bind H
    refine WL.call [4150] (octet_Out_Byte_s 115 4150 rfl _ _ hx3) octet_Out_Byte_f rfl rfl ⟨rfl, rfl, trivial⟩ rfl rfl rfl ?_
    refine WL.nil ?_
    refine QT.n ?_
    refine WC.seq ?_
    refine WC.seq ?_
    refine WC.region ?_
    refine WL.run 3 tt_ok sg0 rfl rfl trivial ?_
    refine WL.nil ?_
    refine QT.n ?_
    refine WC.block ?_
    refine WC.loop (ι := {x : Nat × (Int × ByteArray) // ins_Put_l5 a0 x4_4_1 x.1 x.2 = some r}) (fun x => [(5, .ptr 115 0), (6, .d (.str x4_4_1)), (7, .ptr 107 0), (29, .d (.int .i64 (x4_4_1.size : Int))), (30, .d (.int .i64 x.1.2.1))]) (fun x => [(107, .box 46 [.d (.int .i64 a0.A), .d (.int .i64 a0.B)]), (115, .box 45 [.own 4150]), (4150, .row 5 1 (rowOf x.1.2.2))]) (fun x => x.1.1) ⟨(fuel, (0, x3.b)), H⟩ (Less.mk' ⟨rfl, rfl, rfl, rfl, rfl, trivial⟩ ⟨rfl, rfl, rfl, trivial⟩) fun x => ?_
    obtain ⟨⟨k5, s4⟩, H⟩ := x
    rcases k5 with _ | k5
    · exact of_none H
    rw [ins_Put_l5] at H
    refine WC.seq ?_
    refine WC.region ?_
    refine WL.run 1 tt_ok sg0 rfl rfl trivial ?_
    refine WL.nil ?_
    refine QT.n ?_
    refine WC.seq ?_
    refine WC.cond rfl (fun h6 => ?_) (fun h6 => ?_)
    · replace H := of_t H h6
      refine WC.skip ?_
      refine QT.n ?_
      refine WC.seq ?_
      refine WC.block ?_
      refine WC.seq ?_
      refine WC.region ?_
      refine WL.run 2 tt_ok sg0 rfl rfl trivial ?_
      refine WL.nil ?_
      refine QT.n ?_
      refine WC.seq ?_
      refine WC.region ?_
      obtain ⟨g7, H⟩ := of_need H
      refine WL.run 4 tt_ok sg0 rfl rfl ⟨(nIn_ok g7), trivial⟩ ?_
      refine WL.nil ?_
      refine QT.n ?_
      refine WC.cond rfl (fun h8 => ?_) (fun h8 => ?_)
      · replace H := of_t H h8
        refine WC.region ?_
        refine WL.run 2 tt_ok sg0 rfl rfl trivial ?_
        obtain ⟨g9, H⟩ := of_need H
        refine WL.yv (LJ.Y.idxPtrA 2 s4.1 (by kernel_rfl) rfl rfl rfl (nIn_ok g9)) rfl rfl rfl ?_
        refine WL.yv (LJ.Y.loadPtrA 2 0 (fun k => .int .i64 (([a0.A, a0.B] : List Int).getD k default)) s4.1 rfl rfl rfl (by kernel_rfl) rfl (nIn_ok g9)) rfl rfl rfl ?_
        obtain ⟨x10, hx10, H⟩ := of_bind H
        refine WL.call [4150] (octet_Out_Int_s 115 4150 rfl _ _ hx10) octet_Out_Int_f rfl rfl ⟨rfl, rfl, trivial⟩ rfl rfl rfl ?_
        refine WL.nil ?_
        refine QB.n (QT.n ?_)
        refine WC.region ?_
        refine WL.run 2 tt_ok sg0 rfl rfl trivial ?_
        refine WL.nil ?_
        refine QT.n ?_
        exact ⟨⟨(k5, (IntKind.i64.wrap (s4.1 + 1), x10.b)), H⟩, Nat.lt_succ_self _, Less.mk' ⟨rfl, rfl, rfl, rfl, rfl, trivial⟩ ⟨rfl, rfl, rfl, trivial⟩⟩
      replace H := of_f H h8
      refine WC.region ?_
      refine WL.run 2 tt_ok sg0 rfl rfl trivial ?_
      obtain ⟨g11, H⟩ := of_need H
      refine WL.yv (LJ.Y.idxPtrA 2 s4.1 (by kernel_rfl) rfl rfl rfl (nIn_ok g11)) rfl rfl rfl ?_
      refine WL.yv (LJ.Y.loadPtrA 2 0 (fun k => .int .i64 (([a0.A, a0.B] : List Int).getD k default)) s4.1 rfl rfl rfl (by kernel_rfl) rfl (nIn_ok g11)) rfl rfl rfl ?_
      refine WL.run 1 tt_ok sg0 rfl rfl trivial ?_
      obtain ⟨x12, hx12, H⟩ := of_bind H
      refine WL.call [4150] (octet_Out_Num_s 115 4150 rfl _ _ hx12) octet_Out_Num_f rfl rfl ⟨rfl, rfl, trivial⟩ rfl rfl rfl ?_
      refine WL.nil ?_
      refine QB.n (QT.n ?_)
      refine WC.region ?_
      refine WL.run 2 tt_ok sg0 rfl rfl trivial ?_
      refine WL.nil ?_
      refine QT.n ?_
      exact ⟨⟨(k5, (IntKind.i64.wrap (s4.1 + 1), x12.b)), H⟩, Nat.lt_succ_self _, Less.mk' ⟨rfl, rfl, rfl, rfl, rfl, trivial⟩ ⟨rfl, rfl, rfl, trivial⟩⟩
    replace H := of_f H h6
    refine WC.exit ?_
    refine QT.x (QT.x (QB.hit (QT.n ?_)))
    refine WC.seq ?_
    refine WC.region ?_
    refine WL.run 1 tt_ok sg0 rfl rfl trivial ?_
    obtain ⟨x13, hx13, H⟩ := of_bind H
    refine WL.call [4150] (octet_Out_Done_s 115 4150 rfl _ hx13) octet_Out_Done_f rfl rfl ⟨rfl, rfl, trivial⟩ rfl rfl rfl ?_
    refine WL.run 2 tt_ok sg0 rfl rfl trivial ?_
    refine WL.nil ?_
    refine QT.n ?_
    refine WC.ret ?_
    cases H
    exact Ends.auto rfl rfl rfl trivial
theorem ins_Put_f : hasFunc Tryd.prog 8 Tryd.f8 := ⟨Tryd.func8, rfl, by kernel_rfl⟩

/-! ### logjam/logjamref01.Num -/
theorem ref01_Num_0 (a0 : Int) {r : ByteArray} (H : ref01_Num a0 = some r) : LJ.Spec Tryd.prog 27 [.d (.int .u64 a0)] [] (.d (.str r)) [] := by
  refine LJ.Spec.code Tryd.func27 rfl 22 rfl rfl [] rfl fun w0 F0 S0 B0 => ?_
  unfold ref01_Num at H
  refine WC.seq ?_
  refine WC.region ?_
  refine WL.run 1 tt_ok sg0 rfl rfl trivial ?_
  refine WL.nil ?_
  refine QT.n ?_
  refine WC.seq ?_
  refine WC.region ?_
  refine WL.run 1 tt_ok sg0 rfl rfl trivial ?_
  refine WL.nil ?_
  refine QT.n ?_
  refine WC.seq ?_
  refine WC.block ?_
  refine WC.loop (ι := {x : Nat × (Int × ByteArray) // ref01_Num_l2 x.1 x.2 = some r}) (fun x => [(0, .d (.int .u64 x.1.2.1)), (3, .d (.str x.1.2.2))]) (fun x => []) (fun x => x.1.1) ⟨(fuel, (a0, ByteArray.empty)), H⟩ (Less.mk' ⟨rfl, rfl, trivial⟩ trivial) fun x => ?_
  obtain ⟨⟨k2, s1⟩, H⟩ := x
  rcases k2 with _ | k2
  · exact of_none H
  rw [ref01_Num_l2] at H
  refine WC.seq ?_
  refine WC.seq ?_
  refine WC.region ?_
  refine WL.run 2 tt_ok sg0 rfl rfl trivial ?_
  refine WL.nil ?_
  refine QT.n ?_
  refine WC.cond rfl (fun h3 => ?_) (fun h3 => ?_)
  · replace H := of_t H h3
    refine WC.skip ?_
    refine QT.n ?_
    refine WC.block ?_
    refine WC.seq ?_
    refine WC.region ?_
    refine WL.run 5 tt_ok sg0 rfl rfl trivial ?_
    refine WL.eff 111 tt_ok et_ok eg0 rfl rfl rfl trivial ?_
    obtain ⟨g4, H⟩ := of_need H
    refine WL.row 111 (rowOf (ByteArray.empty.push (UInt8.ofNat (IntKind.u8.wrap (IntKind.u64.wrap ((Int.tmod s1.1 128) + 128))).toNat))) rfl (rowOf_one (s := .empty) (nIn_ok g4).1 (nIn_ok g4).2) rfl ?_
    refine WL.ownStr (ByteArray.empty.push (UInt8.ofNat (IntKind.u8.wrap (IntKind.u64.wrap ((Int.tmod s1.1 128) + 128))).toNat)) tt_ok rfl rfl rfl rfl ?_
    obtain ⟨g5, H⟩ := of_need H
    refine WL.run 2 tt_ok sg0 rfl rfl ⟨(nStr_ok g5), trivial⟩ ?_
    refine WL.nil ?_
    refine QT.n ?_
    refine WC.region ?_
    refine WL.run 3 tt_ok sg0 rfl rfl trivial ?_
    refine WL.nil ?_
    refine QB.n (QT.n ?_)
    exact ⟨⟨(k2, (IntKind.u64.wrap (Int.tdiv s1.1 128), s1.2 ++ (ByteArray.empty.push (UInt8.ofNat (IntKind.u8.wrap (IntKind.u64.wrap ((Int.tmod s1.1 128) + 128))).toNat)))), H⟩, Nat.lt_succ_self _, Less.mk' ⟨rfl, rfl, trivial⟩ trivial⟩
  replace H := of_f H h3
  refine WC.exit ?_
  refine QT.x (QT.x (QB.hit (QT.n ?_)))
  refine WC.seq ?_
  refine WC.region ?_
  refine WL.run 3 tt_ok sg0 rfl rfl trivial ?_
  refine WL.eff 119 tt_ok et_ok eg0 rfl rfl rfl trivial ?_
  obtain ⟨g6, H⟩ := of_need H
  refine WL.row 119 (rowOf (ByteArray.empty.push (UInt8.ofNat (IntKind.u8.wrap s1.1).toNat))) rfl (rowOf_one (s := .empty) (nIn_ok g6).1 (nIn_ok g6).2) rfl ?_
  refine WL.ownStr (ByteArray.empty.push (UInt8.ofNat (IntKind.u8.wrap s1.1).toNat)) tt_ok rfl rfl rfl rfl ?_
  obtain ⟨g7, H⟩ := of_need H
  refine WL.run 2 tt_ok sg0 rfl rfl ⟨(nStr_ok g7), trivial⟩ ?_
  refine WL.nil ?_
  refine QT.n ?_
  refine WC.ret ?_
  cases H
  exact Ends.auto rfl rfl rfl trivial
theorem ref01_Num_f : hasFunc Tryd.prog 27 Tryd.f27 := ⟨Tryd.func27, rfl, by kernel_rfl⟩

/-! ### logjam/logjamref01.Int -/
theorem ref01_Int_0 (a0 : Int) {r : ByteArray} (H : ref01_Int a0 = some r) : LJ.Spec Tryd.prog 26 [.d (.int .i64 a0)] [] (.d (.str r)) [] := by
  refine LJ.Spec.code Tryd.func26 rfl 16 rfl rfl [] rfl fun w0 F0 S0 B0 => ?_
  unfold ref01_Int at H
  refine WC.seq ?_
  refine WC.region ?_
  refine WL.run 1 tt_ok sg0 rfl rfl trivial ?_
  refine WL.nil ?_
  refine QT.n ?_
  refine WC.seq ?_
  refine WC.seq ?_
  refine WC.region ?_
  refine WL.run 2 tt_ok sg0 rfl rfl trivial ?_
  refine WL.nil ?_
  refine QT.n ?_
  refine WC.cond rfl (fun h1 => ?_) (fun h1 => ?_)
  · replace H := of_t H h1
    refine WC.seq ?_
    refine WC.region ?_
    refine WL.run 3 tt_ok sg0 rfl rfl trivial ?_
    obtain ⟨x2, hx2, H⟩ := of_bind H
    refine WL.call [] (ref01_Num_0 _ hx2) ref01_Num_f rfl rfl trivial rfl rfl rfl ?_
    refine WL.run 1 tt_ok sg0 rfl rfl trivial ?_
    refine WL.nil ?_
    refine QT.n ?_
    refine WC.ret ?_
    refine QT.r ?_
    cases H
    exact Ends.auto rfl rfl rfl trivial
  replace H := of_f H h1
  refine WC.skip ?_
  refine QT.n ?_
  refine WC.seq ?_
  refine WC.region ?_
  refine WL.run 6 tt_ok sg0 rfl rfl trivial ?_
  obtain ⟨x3, hx3, H⟩ := of_bind H
  refine WL.call [] (ref01_Num_0 _ hx3) ref01_Num_f rfl rfl trivial rfl rfl rfl ?_
  refine WL.run 1 tt_ok sg0 rfl rfl trivial ?_
  refine WL.nil ?_
  refine QT.n ?_
  refine WC.ret ?_
  cases H
  exact Ends.auto rfl rfl rfl trivial
theorem ref01_Int_f : hasFunc Tryd.prog 26 Tryd.f26 := ⟨Tryd.func26, rfl, by kernel_rfl⟩

/-! ### logjam/logjamref07.Put -/
theorem ref07_Put_0 (a0 : T_api_Ins) {r : ByteArray} (H : ref07_Put a0 = some r) : LJ.Spec Tryd.prog 10 [.d (.agg [.int .i64 a0.Op, .int .i64 a0.A, .int .i64 a0.B])] [] (.d (.str r)) [] := by
  refine LJ.Spec.code Tryd.func10 rfl 46 rfl rfl [] rfl fun w0 F0 S0 B0 => ?_
  unfold ref07_Put at H
  refine WC.seq ?_
  refine WC.region ?_
  refine WL.eff 101 tt_ok et_ok eg0 rfl rfl rfl trivial ?_
  refine WL.run 1 tt_ok sg0 rfl rfl trivial ?_
  refine WL.nil ?_
  refine QT.n ?_
  refine WC.seq ?_
  obtain ⟨x1_2_1, hx1_2_1, H⟩ := of_bind H
  refine WC.heldF [(1, .ptr 101 0), (3, .d (.str x1_2_1)), (4, .d (slT enc_i64 ([a0.A, a0.B] : List Int)))] [(101, .box 23 [.d (.int .i64 a0.Op), .d (.int .i64 a0.A), .d (.int .i64 a0.B)])] (.one 0 true (.one 1 true (.one 3 true (.one 4 true (.one 5 true (.one 6 true (.fork (.one 2 false (.one 8 true (.one 7 false (.one 9 true .done)))) (.one 7 false (.one 2 false (.one 8 true (.one 9 true .done))))))))))) [101] [101] rfl (by kernel_rfl) rfl (by kernel_rfl) rfl rfl (fun _ h => h) rfl rfl rfl (fun FK NK wK K => ?_) ?_
  · refine WH.run 6 tt_ok rfl rfl rfl rfl trivial ?_
    refine WH.fork ?_ ?_
    · refine WH.call [] rfl (ref06_Form_0 _ hx1_2_1) ref06_Form_f rfl rfl trivial rfl rfl rfl rfl rfl ?_
      refine WH.run 1 tt_ok rfl rfl rfl rfl trivial ?_
      refine WH.eff 114 tt_ok et_ok rfl rfl rfl rfl trivial rfl rfl ?_
      refine WH.freezeT 114 enc_i64 ([a0.A, a0.B] : List Int) rfl rfl rfl rfl ?_
      refine WH.mv rfl rfl rfl rfl rfl rfl rfl rfl rfl ?_
      exact WH.nilF rfl (LessW.mk' ⟨AVle.of rfl, AVle.of rfl, AVle.of rfl, trivial⟩ ⟨rfl, trivial⟩)
    · refine WH.eff 114 tt_ok et_ok rfl rfl rfl rfl trivial rfl rfl ?_
      refine WH.freezeT 114 enc_i64 ([a0.A, a0.B] : List Int) rfl rfl rfl rfl ?_
      refine WH.call [] rfl (ref06_Form_0 _ hx1_2_1) ref06_Form_f rfl rfl trivial rfl rfl rfl rfl rfl ?_
      refine WH.run 1 tt_ok rfl rfl rfl rfl trivial ?_
      refine WH.mv rfl rfl rfl rfl rfl rfl rfl rfl rfl ?_
      exact WH.nilF rfl (LessW.mk' ⟨AVle.of rfl, AVle.of rfl, AVle.of rfl, trivial⟩ ⟨rfl, trivial⟩)
  · refine QT.n ?_
    refine WC.seq ?_
    refine WC.region ?_
    refine WL.run 3 tt_ok sg0 rfl rfl trivial ?_
    refine WL.eff 118 tt_ok et_ok eg0 rfl rfl rfl trivial ?_
    obtain ⟨g1, H⟩ := of_need H
    refine WL.row 118 (rowOf (ByteArray.empty.push (UInt8.ofNat (IntKind.u8.wrap a0.Op).toNat))) rfl (rowOf_one (s := .empty) (nIn_ok g1).1 (nIn_ok g1).2) rfl ?_
    refine WL.ownStr (ByteArray.empty.push (UInt8.ofNat (IntKind.u8.wrap a0.Op).toNat)) tt_ok rfl rfl rfl rfl ?_
    refine WL.run 1 tt_ok sg0 rfl rfl trivial ?_
    refine WL.nil ?_
    refine QT.n ?_
    refine WC.seq ?_
    refine WC.seq ?_
    refine WC.region ?_
    refine WL.run 1 tt_ok sg0 rfl rfl trivial ?_
    refine WL.nil ?_
    refine QT.n ?_
    refine WC.block ?_
    refine WC.loop (ι := {x : Nat × (ByteArray × Int) // ref07_Put_l3 a0 x1_2_1 x.1 x.2 = some r}) (fun x => [(3, .d (.str x1_2_1)), (4, .d (slT enc_i64 ([a0.A, a0.B] : List Int))), (5, .d (.str x.1.2.1)), (6, .d (.int .i64 x.1.2.2))]) (fun x => []) (fun x => x.1.1) ⟨(fuel, (ByteArray.empty.push (UInt8.ofNat (IntKind.u8.wrap a0.Op).toNat), 0)), H⟩ (Less.mk' ⟨rfl, rfl, rfl, rfl, trivial⟩ trivial) fun x => ?_
    obtain ⟨⟨k3, s2⟩, H⟩ := x
    rcases k3 with _ | k3
    · exact of_none H
    rw [ref07_Put_l3] at H
    refine WC.seq ?_
    refine WC.seq ?_
    refine WC.region ?_
    refine WL.run 4 tt_ok sg0 rfl rfl trivial ?_
    refine WL.nil ?_
    refine QT.n ?_
    refine WC.cond rfl (fun h4 => ?_) (fun h4 => ?_)
    · replace H := of_t H h4
      refine WC.skip ?_
      refine QT.n ?_
      refine WC.seq ?_
      refine WC.block ?_
      refine WC.seq ?_
      refine WC.region ?_
      obtain ⟨g5, H⟩ := of_need H
      refine WL.run 4 tt_ok sg0 rfl rfl ⟨(nIn_ok g5), trivial⟩ ?_
      refine WL.nil ?_
      refine QT.n ?_
      refine WC.cond rfl (fun h6 => ?_) (fun h6 => ?_)
      · replace H := of_t H h6
        refine WC.region ?_
        obtain ⟨g7, H⟩ := of_need H
        refine WL.run 5 tt_ok sg0 rfl rfl ⟨⟨(nIn_ok g7).1, (nIn_ok g7).2, rfl⟩, trivial⟩ ?_
        obtain ⟨x8, hx8, H⟩ := of_bind H
        refine WL.call [] (ref01_Int_0 _ hx8) ref01_Int_f rfl rfl trivial rfl rfl rfl ?_
        obtain ⟨g9, H⟩ := of_need H
        refine WL.run 2 tt_ok sg0 rfl rfl ⟨(nStr_ok g9), trivial⟩ ?_
        refine WL.nil ?_
        refine QB.n (QT.n ?_)
        refine WC.region ?_
        refine WL.run 3 tt_ok sg0 rfl rfl trivial ?_
        refine WL.nil ?_
        refine QT.n ?_
        exact ⟨⟨(k3, (s2.1 ++ x8, IntKind.i64.wrap (s2.2 + 1))), H⟩, Nat.lt_succ_self _, Less.mk' ⟨rfl, rfl, rfl, rfl, trivial⟩ trivial⟩
      replace H := of_f H h6
      refine WC.region ?_
      obtain ⟨g10, H⟩ := of_need H
      refine WL.run 6 tt_ok sg0 rfl rfl ⟨⟨(nIn_ok g10).1, (nIn_ok g10).2, rfl⟩, trivial⟩ ?_
      obtain ⟨x11, hx11, H⟩ := of_bind H
      refine WL.call [] (ref01_Num_0 _ hx11) ref01_Num_f rfl rfl trivial rfl rfl rfl ?_
      obtain ⟨g12, H⟩ := of_need H
      refine WL.run 2 tt_ok sg0 rfl rfl ⟨(nStr_ok g12), trivial⟩ ?_
      refine WL.nil ?_
      refine QB.n (QT.n ?_)
      refine WC.region ?_
      refine WL.run 3 tt_ok sg0 rfl rfl trivial ?_
      refine WL.nil ?_
      refine QT.n ?_
      exact ⟨⟨(k3, (s2.1 ++ x11, IntKind.i64.wrap (s2.2 + 1))), H⟩, Nat.lt_succ_self _, Less.mk' ⟨rfl, rfl, rfl, rfl, trivial⟩ trivial⟩
    replace H := of_f H h4
    refine WC.exit ?_
    refine QT.x (QT.x (QB.hit (QT.n ?_)))
    refine WC.seq ?_
    refine WC.region ?_
    refine WL.run 2 tt_ok sg0 rfl rfl trivial ?_
    refine WL.nil ?_
    refine QT.n ?_
    refine WC.ret ?_
    cases H
    exact Ends.auto rfl rfl rfl trivial
theorem ref07_Put_f : hasFunc Tryd.prog 10 Tryd.f10 := ⟨Tryd.func10, rfl, by kernel_rfl⟩

/-! ### logjam/octet.Open -/
theorem octet_Open_0 (a0 : ByteArray) {r : T_octet_In} (H : octet_Open a0 = some r) : LJ.Spec Tryd.prog 28 [.d (.str a0)] [] (.ptr 0 0) [(0, .box 67 [.d (.str r.s), .d (.int .i64 r.at_), .d (.int .i64 r.err)])] := by
  refine LJ.Spec.code Tryd.func28 rfl 6 rfl rfl [] rfl fun w0 F0 S0 B0 => ?_
  unfold octet_Open at H
  refine WC.seq ?_
  refine WC.region ?_
  refine WL.run 1 tt_ok sg0 rfl rfl trivial ?_
  refine WL.nil ?_
  refine QT.n ?_
  refine WC.seq ?_
  refine WC.region ?_
  refine WL.run 2 tt_ok sg0 rfl rfl trivial ?_
  refine WL.eff 0 tt_ok et_ok eg0 rfl rfl rfl trivial ?_
  refine WL.run 1 tt_ok sg0 rfl rfl trivial ?_
  refine WL.nil ?_
  refine QT.n ?_
  refine WC.ret ?_
  cases H
  exact Ends.auto rfl rfl rfl ⟨rfl, trivial⟩
theorem octet_Open_s (n0 : Nat) (hn : nodupB [n0] = true) (a0 : ByteArray) {r : T_octet_In} (H : octet_Open a0 = some r) : LJ.Spec Tryd.prog 28 [.d (.str a0)] [] (.ptr n0 0) [(n0, .box 67 [.d (.str r.s), .d (.int .i64 r.at_), .d (.int .i64 r.err)])] :=
  Spec.names [n0] hn rfl rfl (octet_Open_0 a0 H)
theorem octet_Open_f : hasFunc Tryd.prog 28 Tryd.f28 := ⟨Tryd.func28, rfl, by kernel_rfl⟩

/-! ### (*logjam/octet.In).fail -/
theorem octet_In_fail_0 (a0 : T_octet_In) (a1 : Int) {r : T_octet_In} (H : octet_In_fail a0 a1 = some r) : LJ.Spec Tryd.prog 39 [.ptr 0 0, .d (.int .i64 a1)] [(0, .box 67 [.d (.str a0.s), .d (.int .i64 a0.at_), .d (.int .i64 a0.err)])] (.tup []) [(0, .box 67 [.d (.str r.s), .d (.int .i64 r.at_), .d (.int .i64 r.err)])] := by
  refine LJ.Spec.code Tryd.func39 rfl 21 rfl rfl [0] rfl fun w0 F0 S0 B0 => ?_
  unfold octet_In_fail at H
  refine WC.seq ?_
  refine WC.region ?_
  refine WL.run 5 tt_ok sg0 rfl rfl trivial ?_
  refine WL.nil ?_
  refine QT.n ?_
  refine WC.cond rfl (fun h1 => ?_) (fun h1 => ?_)
  · replace H := of_t H h1
    refine WC.region ?_
    refine WL.run 10 tt_ok sg0 rfl rfl trivial ?_
    refine WL.eff 0 tt_ok et_ok eg0 rfl rfl rfl trivial ?_
    refine WL.run 2 tt_ok sg0 rfl rfl trivial ?_
    refine WL.eff 0 tt_ok et_ok eg0 rfl rfl rfl trivial ?_
    refine WL.nil ?_
    cases H
    exact Ends.auton rfl rfl rfl ⟨rfl, trivial⟩
  replace H := of_f H h1
  refine WC.skip ?_
  cases H
  exact Ends.auton rfl rfl rfl ⟨rfl, trivial⟩
theorem octet_In_fail_s (n0 : Nat) (hn : nodupB [n0] = true) (a0 : T_octet_In) (a1 : Int) {r : T_octet_In} (H : octet_In_fail a0 a1 = some r) : LJ.Spec Tryd.prog 39 [.ptr n0 0, .d (.int .i64 a1)] [(n0, .box 67 [.d (.str a0.s), .d (.int .i64 a0.at_), .d (.int .i64 a0.err)])] (.tup []) [(n0, .box 67 [.d (.str r.s), .d (.int .i64 r.at_), .d (.int .i64 r.err)])] :=
  Spec.names [n0] hn rfl rfl (octet_In_fail_0 a0 a1 H)
theorem octet_In_fail_f : hasFunc Tryd.prog 39 Tryd.f39 := ⟨Tryd.func39, rfl, by kernel_rfl⟩

/-! ### (*logjam/octet.In).Byte -/
theorem octet_In_Byte_0 (a0 : T_octet_In) {r : Int × T_octet_In} (H : octet_In_Byte a0 = some r) : LJ.Spec Tryd.prog 29 [.ptr 0 0] [(0, .box 67 [.d (.str a0.s), .d (.int .i64 a0.at_), .d (.int .i64 a0.err)])] (.d (.int .i64 r.1)) [(0, .box 67 [.d (.str r.2.s), .d (.int .i64 r.2.at_), .d (.int .i64 r.2.err)])] := by
  refine LJ.Spec.code Tryd.func29 rfl 35 rfl rfl [0] rfl fun w0 F0 S0 B0 => ?_
  unfold octet_In_Byte at H
  refine WC.seq ?_
  refine WC.region ?_
  refine WL.run 1 tt_ok sg0 rfl rfl trivial ?_
  refine WL.nil ?_
  refine QT.n ?_
  refine WC.seq ?_
  refine WC.seq ?_
  refine WC.region ?_
  refine WL.run 2 tt_ok sg0 rfl rfl trivial ?_
  refine WL.nil ?_
  refine QT.n ?_
  refine WC.cond rfl (fun h => absurd h (by decide)) (fun h => ?_)
  refine WC.skip ?_
  refine QT.n ?_
  refine WC.seq ?_
  refine WC.seq ?_
  refine WC.heldP (.one 0 true (.one 1 true (.one 2 true (.one 3 true (.one 4 true (.one 5 true (.one 6 true (.one 7 true (.one 8 true (.one 9 true .done)))))))))) [0] [0] rfl (by kernel_rfl) rfl (by kernel_rfl) rfl rfl (fun _ h => h) rfl rfl rfl (fun _ _ _ h => h) fun FK NK wK K => ?_
  refine WH.run 10 tt_ok rfl rfl rfl rfl trivial ?_
  refine WH.nil rfl ?_
  refine QT.n ?_
  refine WC.cond rfl (fun h1 => ?_) (fun h1 => ?_)
  · replace H := of_t H h1
    refine WC.seq ?_
    refine WC.region ?_
    refine WL.run 1 tt_ok sg0 rfl rfl trivial ?_
    obtain ⟨x2, hx2, H⟩ := of_bind H
    refine WL.call [] (octet_In_fail_s 0 rfl _ _ hx2) octet_In_fail_f rfl rfl ⟨rfl, trivial⟩ rfl rfl rfl ?_
    refine WL.nil ?_
    refine QT.n ?_
    refine WC.seq ?_
    refine WC.region ?_
    refine WL.run 1 tt_ok sg0 rfl rfl trivial ?_
    refine WL.nil ?_
    refine QT.n ?_
    refine WC.ret ?_
    refine QT.r ?_
    cases H
    exact Ends.auto rfl rfl rfl ⟨rfl, trivial⟩
  replace H := of_f H h1
  refine WC.skip ?_
  refine QT.n ?_
  refine WC.seq ?_
  refine WC.region ?_
  refine WL.run 7 tt_ok sg0 rfl rfl trivial ?_
  refine WL.eff 0 tt_ok et_ok eg0 rfl rfl rfl trivial ?_
  refine WL.nil ?_
  refine QT.n ?_
  refine WC.seq ?_
  refine WC.heldP (.one 0 true (.one 1 true (.one 2 true (.one 3 true (.one 4 true (.one 5 true (.one 6 true (.one 7 true (.one 8 true (.one 9 true (.one 10 true (.one 11 true .done)))))))))))) [0] [0] rfl (by kernel_rfl) rfl (by kernel_rfl) rfl rfl (fun _ h => h) rfl rfl rfl (fun _ _ _ h => h) fun FK NK wK K => ?_
  obtain ⟨g3, H⟩ := of_need H
  refine WH.run 12 tt_ok rfl rfl rfl rfl ⟨(nIn_ok g3), trivial⟩ ?_
  refine WH.nil rfl ?_
  refine QT.n ?_
  refine WC.ret ?_
  cases H
  exact Ends.auto rfl rfl rfl ⟨rfl, trivial⟩
theorem octet_In_Byte_s (n0 : Nat) (hn : nodupB [n0] = true) (a0 : T_octet_In) {r : Int × T_octet_In} (H : octet_In_Byte a0 = some r) : LJ.Spec Tryd.prog 29 [.ptr n0 0] [(n0, .box 67 [.d (.str a0.s), .d (.int .i64 a0.at_), .d (.int .i64 a0.err)])] (.d (.int .i64 r.1)) [(n0, .box 67 [.d (.str r.2.s), .d (.int .i64 r.2.at_), .d (.int .i64 r.2.err)])] :=
  Spec.names [n0] hn rfl rfl (octet_In_Byte_0 a0 H)
theorem octet_In_Byte_f : hasFunc Tryd.prog 29 Tryd.f29 := ⟨Tryd.func29, rfl, by kernel_rfl⟩

/-! ### (*logjam/octet.In).Err -/
theorem octet_In_Err_0 (a0 : T_octet_In) {r : Int} (H : octet_In_Err a0 = some r) : LJ.Spec Tryd.prog 30 [.ptr 0 0] [(0, .box 67 [.d (.str a0.s), .d (.int .i64 a0.at_), .d (.int .i64 a0.err)])] (.d (.int .i64 r)) [(0, .box 67 [.d (.str a0.s), .d (.int .i64 a0.at_), .d (.int .i64 a0.err)])] := by
  refine LJ.Spec.code Tryd.func30 rfl 9 rfl rfl [0] rfl fun w0 F0 S0 B0 => ?_
  unfold octet_In_Err at H
  refine WC.seq ?_
  refine WC.region ?_
  refine WL.run 1 tt_ok sg0 rfl rfl trivial ?_
  refine WL.nil ?_
  refine QT.n ?_
  refine WC.seq ?_
  refine WC.seq ?_
  refine WC.region ?_
  refine WL.run 2 tt_ok sg0 rfl rfl trivial ?_
  refine WL.nil ?_
  refine QT.n ?_
  refine WC.cond rfl (fun h => absurd h (by decide)) (fun h => ?_)
  refine WC.skip ?_
  refine QT.n ?_
  refine WC.seq ?_
  refine WC.region ?_
  refine WL.run 5 tt_ok sg0 rfl rfl trivial ?_
  refine WL.nil ?_
  refine QT.n ?_
  refine WC.ret ?_
  cases H
  exact Ends.auto rfl rfl rfl ⟨rfl, trivial⟩
theorem octet_In_Err_s (n0 : Nat) (hn : nodupB [n0] = true) (a0 : T_octet_In) {r : Int} (H : octet_In_Err a0 = some r) : LJ.Spec Tryd.prog 30 [.ptr n0 0] [(n0, .box 67 [.d (.str a0.s), .d (.int .i64 a0.at_), .d (.int .i64 a0.err)])] (.d (.int .i64 r)) [(n0, .box 67 [.d (.str a0.s), .d (.int .i64 a0.at_), .d (.int .i64 a0.err)])] :=
  Spec.names [n0] hn rfl rfl (octet_In_Err_0 a0 H)
theorem octet_In_Err_f : hasFunc Tryd.prog 30 Tryd.f30 := ⟨Tryd.func30, rfl, by kernel_rfl⟩

/-! ### (*logjam/octet.In).Num -/
theorem octet_In_Num_0 (a0 : T_octet_In) {r : Int × T_octet_In} (H : octet_In_Num a0 = some r) : LJ.Spec Tryd.prog 32 [.ptr 0 0] [(0, .box 67 [.d (.str a0.s), .d (.int .i64 a0.at_), .d (.int .i64 a0.err)])] (.d (.int .u64 r.1)) [(0, .box 67 [.d (.str r.2.s), .d (.int .i64 r.2.at_), .d (.int .i64 r.2.err)])] := by
  refine LJ.Spec.code Tryd.func32 rfl 49 rfl rfl [0] rfl fun w0 F0 S0 B0 => ?_
  unfold octet_In_Num at H
  refine WC.seq ?_
  refine WC.region ?_
  refine WL.run 1 tt_ok sg0 rfl rfl trivial ?_
  refine WL.nil ?_
  refine QT.n ?_
  refine WC.seq ?_
  refine WC.region ?_
  refine WL.run 1 tt_ok sg0 rfl rfl trivial ?_
  refine WL.nil ?_
  refine QT.n ?_
  refine WC.seq ?_
  refine WC.seq ?_
  refine WC.region ?_
  refine WL.run 1 tt_ok sg0 rfl rfl trivial ?_
  refine WL.nil ?_
  refine QT.n ?_
  refine WC.block ?_
  refine WC.loop (ι := {x : Nat × (Int × Int × ByteArray × Int × Int) // octet_In_Num_l2 x.1 x.2 = some r}) (fun x => [(0, .ptr 0 0), (3, .d (.int .u64 x.1.2.1)), (6, .d (.int .i64 x.1.2.2.1))]) (fun x => [(0, .box 67 [.d (.str x.1.2.2.2.1), .d (.int .i64 x.1.2.2.2.2.1), .d (.int .i64 x.1.2.2.2.2.2)])]) (fun x => x.1.1) ⟨(fuel, (0, 0, a0.s, a0.at_, a0.err)), H⟩ (Less.mk' ⟨rfl, rfl, rfl, trivial⟩ ⟨rfl, trivial⟩) fun x => ?_
  obtain ⟨⟨k2, s1⟩, H⟩ := x
  rcases k2 with _ | k2
  · exact of_none H
  rw [octet_In_Num_l2] at H
  refine WC.seq ?_
  refine WC.region ?_
  refine WL.run 1 tt_ok sg0 rfl rfl trivial ?_
  refine WL.nil ?_
  refine QT.n ?_
  refine WC.seq ?_
  refine WC.cond rfl (fun h3 => ?_) (fun h3 => ?_)
  · replace H := of_t H h3
    refine WC.skip ?_
    refine QT.n ?_
    refine WC.seq ?_
    refine WC.block ?_
    refine WC.seq ?_
    refine WC.region ?_
    refine WL.run 2 tt_ok sg0 rfl rfl trivial ?_
    refine WL.nil ?_
    refine QT.n ?_
    refine WC.seq ?_
    refine WC.region ?_
    refine WL.run 1 tt_ok sg0 rfl rfl trivial ?_
    obtain ⟨x4, hx4, H⟩ := of_bind H
    refine WL.call [] (octet_In_Byte_s 0 rfl _ hx4) octet_In_Byte_f rfl rfl ⟨rfl, trivial⟩ rfl rfl rfl ?_
    refine WL.run 1 tt_ok sg0 rfl rfl trivial ?_
    refine WL.nil ?_
    refine QT.n ?_
    refine WC.seq ?_
    refine WC.seq ?_
    refine WC.region ?_
    refine WL.run 3 tt_ok sg0 rfl rfl trivial ?_
    refine WL.grun 5 2 false 13 tt_ok sg0 rfl rfl rfl rfl trivial ?_
    refine WL.pickF rfl rfl rfl rfl rfl rfl ?_
    refine WL.nil ?_
    refine QT.n ?_
    refine WC.cond rfl (fun h5 => ?_) (fun h5 => ?_)
    · replace H := of_t H h5
      refine WC.seq ?_
      refine WC.region ?_
      refine WL.run 1 tt_ok sg0 rfl rfl trivial ?_
      refine WL.nil ?_
      refine QT.n ?_
      refine WC.ret ?_
      refine QT.r (QB.r (QT.r (QT.r (QB.r (QT.r ?_)))))
      cases H
      exact Ends.auto rfl rfl rfl ⟨rfl, trivial⟩
    replace H := of_f H h5
    refine WC.skip ?_
    refine QT.n ?_
    refine WC.seq ?_
    refine WC.seq ?_
    refine WC.region ?_
    refine WL.run 3 tt_ok sg0 rfl rfl trivial ?_
    refine WL.sect 2 2 true tt_ok sg0 rfl rfl (fun _ => trivial) ?_
    refine WL.run 2 tt_ok sg0 rfl rfl ⟨by first | exact id | exact fun h => by rw [h]; rfl | simp_all, trivial⟩ ?_
    refine WL.sect 3 6 false tt_ok sg0 rfl rfl (fun _ => trivial) ?_
    refine WL.sect 2 9 true tt_ok sg0 rfl rfl (fun _ => trivial) ?_
    refine WL.sect 1 6 false tt_ok sg0 rfl rfl (fun hb => ⟨by first | exact id | exact ⟨hb, fun h => by rw [hb, h]; rfl⟩ | exact ⟨hb, id⟩ | exact fun h => by rw [hb, h]; rfl | exact fun h => by rw [h]; rfl | simp_all, trivial⟩) ?_
    refine WL.run 1 tt_ok sg0 rfl rfl ⟨by first | exact id | exact fun h => by rw [h]; rfl | simp_all, trivial⟩ ?_
    refine WL.nil ?_
    refine QT.n ?_
    refine WC.cond rfl (fun h6 => ?_) (fun h6 => ?_)
    · replace H := of_t H h6
      refine WC.seq ?_
      refine WC.region ?_
      refine WL.run 1 tt_ok sg0 rfl rfl trivial ?_
      obtain ⟨x7, hx7, H⟩ := of_bind H
      refine WL.call [] (octet_In_fail_s 0 rfl _ _ hx7) octet_In_fail_f rfl rfl ⟨rfl, trivial⟩ rfl rfl rfl ?_
      refine WL.nil ?_
      refine QT.n ?_
      refine WC.seq ?_
      refine WC.region ?_
      refine WL.run 1 tt_ok sg0 rfl rfl trivial ?_
      refine WL.nil ?_
      refine QT.n ?_
      refine WC.ret ?_
      refine QT.r (QB.r (QT.r (QT.r (QB.r (QT.r ?_)))))
      cases H
      exact Ends.auto rfl rfl rfl ⟨rfl, trivial⟩
    replace H := of_f H h6
    refine WC.skip ?_
    refine QT.n ?_
    refine WC.seq ?_
    refine WC.region ?_
    obtain ⟨g8, H⟩ := of_need H
    refine WL.run 9 tt_ok sg0 rfl rfl ⟨(nNn_ok g8), trivial⟩ ?_
    refine WL.nil ?_
    refine QT.n ?_
    refine WC.seq ?_
    refine WC.region ?_
    refine WL.run 2 tt_ok sg0 rfl rfl trivial ?_
    refine WL.nil ?_
    refine QT.n ?_
    refine WC.cond rfl (fun h9 => ?_) (fun h9 => ?_)
    · replace H := of_t H h9
      refine WC.seq ?_
      refine WC.region ?_
      refine WL.run 2 tt_ok sg0 rfl rfl trivial ?_
      refine WL.nil ?_
      refine QT.n ?_
      refine WC.ret ?_
      refine QB.r (QT.r (QT.r (QB.r (QT.r ?_))))
      cases H
      exact Ends.auto rfl rfl rfl ⟨rfl, trivial⟩
    replace H := of_f H h9
    refine WC.skip ?_
    refine QB.n (QT.n ?_)
    refine WC.region ?_
    refine WL.run 2 tt_ok sg0 rfl rfl trivial ?_
    refine WL.nil ?_
    refine QT.n ?_
    exact ⟨⟨(k2, (Go.bits .or .u64 s1.1 (IntKind.u64.wrap ((IntKind.u64.wrap (Go.bits .and .i64 x4.1 127)) * 2 ^ min (IntKind.i64.wrap ((7 : Int) * s1.2.1) : Int).toNat IntKind.u64.bits)), IntKind.i64.wrap (s1.2.1 + 1), x4.2.s, x4.2.at_, x4.2.err)), H⟩, Nat.lt_succ_self _, Less.mk' ⟨rfl, rfl, rfl, trivial⟩ ⟨rfl, trivial⟩⟩
  replace H := of_f H h3
  refine WC.exit ?_
  refine QT.x (QT.x (QB.hit (QT.n ?_)))
  refine WC.seq ?_
  refine WC.region ?_
  refine WL.run 2 tt_ok sg0 rfl rfl trivial ?_
  refine WL.nil ?_
  refine QT.n ?_
  refine WC.ret ?_
  cases H
  exact Ends.auto rfl rfl rfl ⟨rfl, trivial⟩
theorem octet_In_Num_s (n0 : Nat) (hn : nodupB [n0] = true) (a0 : T_octet_In) {r : Int × T_octet_In} (H : octet_In_Num a0 = some r) : LJ.Spec Tryd.prog 32 [.ptr n0 0] [(n0, .box 67 [.d (.str a0.s), .d (.int .i64 a0.at_), .d (.int .i64 a0.err)])] (.d (.int .u64 r.1)) [(n0, .box 67 [.d (.str r.2.s), .d (.int .i64 r.2.at_), .d (.int .i64 r.2.err)])] :=
  Spec.names [n0] hn rfl rfl (octet_In_Num_0 a0 H)
theorem octet_In_Num_f : hasFunc Tryd.prog 32 Tryd.f32 := ⟨Tryd.func32, rfl, by kernel_rfl⟩

/-! ### (*logjam/octet.In).Int -/
theorem octet_In_Int_0 (a0 : T_octet_In) {r : Int × T_octet_In} (H : octet_In_Int a0 = some r) : LJ.Spec Tryd.prog 31 [.ptr 0 0] [(0, .box 67 [.d (.str a0.s), .d (.int .i64 a0.at_), .d (.int .i64 a0.err)])] (.d (.int .i64 r.1)) [(0, .box 67 [.d (.str r.2.s), .d (.int .i64 r.2.at_), .d (.int .i64 r.2.err)])] := by
  refine LJ.Spec.code Tryd.func31 rfl 14 rfl rfl [0] rfl fun w0 F0 S0 B0 => ?_
  unfold octet_In_Int at H
  refine WC.seq ?_
  refine WC.region ?_
  refine WL.run 1 tt_ok sg0 rfl rfl trivial ?_
  refine WL.nil ?_
  refine QT.n ?_
  refine WC.seq ?_
  refine WC.region ?_
  refine WL.run 1 tt_ok sg0 rfl rfl trivial ?_
  obtain ⟨x1, hx1, H⟩ := of_bind H
  refine WL.call [] (octet_In_Num_s 0 rfl _ hx1) octet_In_Num_f rfl rfl ⟨rfl, trivial⟩ rfl rfl rfl ?_
  refine WL.run 1 tt_ok sg0 rfl rfl trivial ?_
  refine WL.nil ?_
  refine QT.n ?_
  refine WC.seq ?_
  refine WC.region ?_
  refine WL.run 9 tt_ok sg0 rfl rfl trivial ?_
  refine WL.nil ?_
  refine QT.n ?_
  refine WC.ret ?_
  cases H
  exact Ends.auto rfl rfl rfl ⟨rfl, trivial⟩
theorem octet_In_Int_s (n0 : Nat) (hn : nodupB [n0] = true) (a0 : T_octet_In) {r : Int × T_octet_In} (H : octet_In_Int a0 = some r) : LJ.Spec Tryd.prog 31 [.ptr n0 0] [(n0, .box 67 [.d (.str a0.s), .d (.int .i64 a0.at_), .d (.int .i64 a0.err)])] (.d (.int .i64 r.1)) [(n0, .box 67 [.d (.str r.2.s), .d (.int .i64 r.2.at_), .d (.int .i64 r.2.err)])] :=
  Spec.names [n0] hn rfl rfl (octet_In_Int_0 a0 H)
theorem octet_In_Int_f : hasFunc Tryd.prog 31 Tryd.f31 := ⟨Tryd.func31, rfl, by kernel_rfl⟩

/-! ### (*logjam/octet.In).Left -/
theorem octet_In_Left_0 (a0 : T_octet_In) {r : Int} (H : octet_In_Left a0 = some r) : LJ.Spec Tryd.prog 33 [.ptr 0 0] [(0, .box 67 [.d (.str a0.s), .d (.int .i64 a0.at_), .d (.int .i64 a0.err)])] (.d (.int .i64 r)) [(0, .box 67 [.d (.str a0.s), .d (.int .i64 a0.at_), .d (.int .i64 a0.err)])] := by
  refine LJ.Spec.code Tryd.func33 rfl 15 rfl rfl [0] rfl fun w0 F0 S0 B0 => ?_
  unfold octet_In_Left at H
  refine WC.seq ?_
  refine WC.region ?_
  refine WL.run 1 tt_ok sg0 rfl rfl trivial ?_
  refine WL.nil ?_
  refine QT.n ?_
  refine WC.seq ?_
  refine WC.seq ?_
  refine WC.region ?_
  refine WL.run 2 tt_ok sg0 rfl rfl trivial ?_
  refine WL.nil ?_
  refine QT.n ?_
  refine WC.cond rfl (fun h => absurd h (by decide)) (fun h => ?_)
  refine WC.skip ?_
  refine QT.n ?_
  refine WC.seq ?_
  refine WC.heldP (.one 0 true (.one 1 true (.one 2 true (.one 3 true (.one 4 true (.one 5 true (.one 6 true (.one 7 true (.one 8 true (.one 9 true (.one 10 true .done))))))))))) [0] [0] rfl (by kernel_rfl) rfl (by kernel_rfl) rfl rfl (fun _ h => h) rfl rfl rfl (fun _ _ _ h => h) fun FK NK wK K => ?_
  refine WH.run 11 tt_ok rfl rfl rfl rfl trivial ?_
  refine WH.nil rfl ?_
  refine QT.n ?_
  refine WC.ret ?_
  cases H
  exact Ends.auto rfl rfl rfl ⟨rfl, trivial⟩
theorem octet_In_Left_s (n0 : Nat) (hn : nodupB [n0] = true) (a0 : T_octet_In) {r : Int} (H : octet_In_Left a0 = some r) : LJ.Spec Tryd.prog 33 [.ptr n0 0] [(n0, .box 67 [.d (.str a0.s), .d (.int .i64 a0.at_), .d (.int .i64 a0.err)])] (.d (.int .i64 r)) [(n0, .box 67 [.d (.str a0.s), .d (.int .i64 a0.at_), .d (.int .i64 a0.err)])] :=
  Spec.names [n0] hn rfl rfl (octet_In_Left_0 a0 H)
theorem octet_In_Left_f : hasFunc Tryd.prog 33 Tryd.f33 := ⟨Tryd.func33, rfl, by kernel_rfl⟩

/-! ### logjam/ins.Get -/
theorem ins_Get_0 (a0 : ByteArray) {r : T_api_Ins × Int × Int} (H : ins_Get a0 = some r) : LJ.Spec Tryd.prog 12 [.d (.str a0)] [] (.tup [.d (.agg [.int .i64 r.1.Op, .int .i64 r.1.A, .int .i64 r.1.B]), .d (.int .i64 r.2.1), .d (.int .i64 r.2.2)]) [] := by
  refine LJ.Spec.code Tryd.func12 rfl 76 rfl rfl [] rfl fun w0 F0 S0 B0 => ?_
  unfold ins_Get at H
  refine WC.seq ?_
  refine WC.region ?_
  refine WL.alloc 102 tt_ok rfl rfl rfl ?_
  refine WL.run 2 tt_ok sg0 rfl rfl trivial ?_
  refine WL.nil ?_
  refine QT.n ?_
  refine WC.seq ?_
  refine WC.region ?_
  refine WL.run 1 tt_ok sg0 rfl rfl trivial ?_
  obtain ⟨x1, hx1, H⟩ := of_bind H
  refine WL.call [2140] (octet_Open_s 2140 rfl _ hx1) octet_Open_f rfl rfl trivial rfl rfl rfl ?_
  refine WL.run 1 tt_ok sg0 rfl rfl trivial ?_
  refine WL.nil ?_
  refine QT.n ?_
  refine WC.seq ?_
  refine WC.region ?_
  refine WL.run 1 tt_ok sg0 rfl rfl trivial ?_
  obtain ⟨x2, hx2, H⟩ := of_bind H
  refine WL.call [] (octet_In_Byte_s 2140 rfl _ hx2) octet_In_Byte_f rfl rfl ⟨rfl, trivial⟩ rfl rfl rfl ?_
  refine WL.run 1 tt_ok sg0 rfl rfl trivial ?_
  refine WL.alloc 106 tt_ok rfl rfl rfl ?_
  refine WL.eff 0 tt_ok et_ok eg0 rfl rfl rfl trivial ?_
  refine WL.nil ?_
  refine QT.n ?_
  refine WC.seq ?_
  refine WC.seq ?_
  refine WC.region ?_
  refine WL.run 1 tt_ok sg0 rfl rfl trivial ?_
  obtain ⟨x3, hx3, H⟩ := of_bind H
  refine WL.call [] (octet_In_Err_s 2140 rfl _ hx3) octet_In_Err_f rfl rfl ⟨rfl, trivial⟩ rfl rfl rfl ?_
  refine WL.run 1 tt_ok sg0 rfl rfl trivial ?_
  refine WL.nil ?_
  refine QT.n ?_
  refine WC.seq ?_
  refine WC.region ?_
  refine WL.run 2 tt_ok sg0 rfl rfl trivial ?_
  refine WL.nil ?_
  refine QT.n ?_
  refine WC.cond rfl (fun h4 => ?_) (fun h4 => ?_)
  · replace H := of_t H h4
    refine WC.seq ?_
    refine WC.region ?_
    refine WL.run 2 tt_ok sg0 rfl rfl trivial ?_
    refine WL.eff 0 tt_ok et_ok eg0 rfl rfl rfl trivial ?_
    refine WL.run 2 tt_ok sg0 rfl rfl trivial ?_
    refine WL.nil ?_
    refine QT.n ?_
    refine WC.ret ?_
    refine QT.r ?_
    cases H
    exact Ends.autoC tt_ok rfl rfl rfl trivial
  replace H := of_f H h4
  refine WC.skip ?_
  refine QT.n ?_
  refine WC.seq ?_
  refine WC.seq ?_
  refine WC.region ?_
  refine WL.run 2 tt_ok sg0 rfl rfl trivial ?_
  obtain ⟨x5, hx5, H⟩ := of_bind H
  refine WL.call [] (op_Name_0 _ hx5) op_Name_f rfl rfl trivial rfl rfl rfl ?_
  refine WL.run 1 tt_ok sg0 rfl rfl trivial ?_
  refine WL.nil ?_
  refine QT.n ?_
  refine WC.cond rfl (fun h6 => ?_) (fun h6 => ?_)
  · replace H := of_t H h6
    refine WC.seq ?_
    refine WC.region ?_
    refine WL.run 1 tt_ok sg0 rfl rfl trivial ?_
    refine WL.eff 0 tt_ok et_ok eg0 rfl rfl rfl trivial ?_
    refine WL.run 2 tt_ok sg0 rfl rfl trivial ?_
    refine WL.nil ?_
    refine QT.n ?_
    refine WC.ret ?_
    refine QT.r ?_
    cases H
    exact Ends.autoC tt_ok rfl rfl rfl trivial
  replace H := of_f H h6
  refine WC.skip ?_
  refine QT.n ?_
  refine WC.seq ?_
  refine WC.region ?_
  refine WL.run 2 tt_ok sg0 rfl rfl trivial ?_
  obtain ⟨x7, hx7, H⟩ := of_bind H
  refine WL.call [] (op_Form_0 _ hx7) op_Form_f rfl rfl trivial rfl rfl rfl ?_
  refine WL.run 1 tt_ok sg0 rfl rfl trivial ?_
  refine WL.nil ?_
  refine QT.n ?_
  refine WC.seq ?_
  refine WC.region ?_
  refine WL.allocZ 109 [.int .i64 0, .int .i64 0] rfl (by kernel_rfl) rfl rfl rfl rfl ?_
  refine WL.nil ?_
  refine QT.n ?_
  refine WC.seq ?_
  refine WC.seq ?_
  refine WC.region ?_
  refine WL.run 3 tt_ok sg0 rfl rfl trivial ?_
  refine WL.nil ?_
  refine QT.n ?_
  refine WC.block ?_
  refine WC.loop (ι := {x : Nat × (Int × (List Int) × ByteArray × Int × Int) // ins_Get_l9 a0 x2 x7 x.1 x.2 = some r}) (fun x => [(0, .d (.str a0)), (2, .ptr 102 0), (5, .ptr 2140 0), (6, .ptr 106 0), (8, .d (.str x7)), (9, .ptr 109 0), (33, .d (.int .i64 (x7.size : Int))), (34, .d (.int .i64 x.1.2.1))]) (fun x => [(102, .box 23 [.d (.int .i64 0), .d (.int .i64 0), .d (.int .i64 0)]), (106, .box 23 [.d (.int .i64 x2.1), .d (.int .i64 0), .d (.int .i64 0)]), (109, .box 46 [.d (.int .i64 (x.1.2.2.1.getD 0 default)), .d (.int .i64 (x.1.2.2.1.getD 1 default))]), (2140, .box 67 [.d (.str x.1.2.2.2.1), .d (.int .i64 x.1.2.2.2.2.1), .d (.int .i64 x.1.2.2.2.2.2)])]) (fun x => x.1.1) ⟨(fuel, (0, ([0, 0] : List Int), x2.2.s, x2.2.at_, x2.2.err)), H⟩ (Less.mk' ⟨rfl, rfl, rfl, rfl, rfl, rfl, rfl, rfl, trivial⟩ ⟨rfl, rfl, rfl, rfl, trivial⟩) fun x => ?_
  obtain ⟨⟨k9, s8⟩, H⟩ := x
  rcases k9 with _ | k9
  · exact of_none H
  rw [ins_Get_l9] at H
  refine WC.seq ?_
  refine WC.region ?_
  refine WL.run 1 tt_ok sg0 rfl rfl trivial ?_
  refine WL.nil ?_
  refine QT.n ?_
  refine WC.seq ?_
  refine WC.cond rfl (fun h10 => ?_) (fun h10 => ?_)
  · replace H := of_t H h10
    refine WC.skip ?_
    refine QT.n ?_
    refine WC.seq ?_
    refine WC.block ?_
    refine WC.seq ?_
    refine WC.region ?_
    refine WL.run 2 tt_ok sg0 rfl rfl trivial ?_
    refine WL.nil ?_
    refine QT.n ?_
    refine WC.seq ?_
    refine WC.seq ?_
    refine WC.region ?_
    obtain ⟨g11, H⟩ := of_need H
    refine WL.run 4 tt_ok sg0 rfl rfl ⟨(nIn_ok g11), trivial⟩ ?_
    refine WL.nil ?_
    refine QT.n ?_
    refine WC.cond rfl (fun h12 => ?_) (fun h12 => ?_)
    · replace H := of_t H h12
      refine WC.region ?_
      refine WL.run 2 tt_ok sg0 rfl rfl trivial ?_
      obtain ⟨x13, hx13, H⟩ := of_bind H
      refine WL.call [] (octet_In_Int_s 2140 rfl _ hx13) octet_In_Int_f rfl rfl ⟨rfl, trivial⟩ rfl rfl rfl ?_
      obtain ⟨g14, H⟩ := of_need H
      refine WL.yv (LJ.Y.idxPtrA 2 s8.1 (by kernel_rfl) rfl rfl rfl (nIn_ok g14)) rfl rfl rfl ?_
      refine WL.wo (WO.storePtrA 2 0 (fun x : Int => DV.int .i64 x) s8.2.1 x13.1 s8.1 (cs' := [.d (.int .i64 ((aset 2 s8.2.1 s8.1.toNat x13.1).getD 0 default)), .d (.int .i64 ((aset 2 s8.2.1 s8.1.toNat x13.1).getD 1 default))]) rfl rfl rfl rfl rfl (by kernel_rfl) rfl rfl (nIn_ok g14) rfl rfl rfl) rfl ?_
      refine WL.nil ?_
      refine QT.n ?_
      refine WC.seq ?_
      refine WC.region ?_
      refine WL.run 1 tt_ok sg0 rfl rfl trivial ?_
      obtain ⟨x15, hx15, H⟩ := of_bind H
      refine WL.call [] (octet_In_Err_s 2140 rfl _ hx15) octet_In_Err_f rfl rfl ⟨rfl, trivial⟩ rfl rfl rfl ?_
      refine WL.run 1 tt_ok sg0 rfl rfl trivial ?_
      refine WL.nil ?_
      refine QT.n ?_
      refine WC.seq ?_
      refine WC.region ?_
      refine WL.run 2 tt_ok sg0 rfl rfl trivial ?_
      refine WL.nil ?_
      refine QT.n ?_
      refine WC.cond rfl (fun h16 => ?_) (fun h16 => ?_)
      · replace H := of_t H h16
        refine WC.seq ?_
        refine WC.region ?_
        refine WL.run 2 tt_ok sg0 rfl rfl trivial ?_
        refine WL.eff 0 tt_ok et_ok eg0 rfl rfl rfl trivial ?_
        refine WL.run 2 tt_ok sg0 rfl rfl trivial ?_
        refine WL.nil ?_
        refine QT.n ?_
        refine WC.ret ?_
        refine QB.r (QT.r (QT.r (QB.r (QT.r ?_))))
        cases H
        exact Ends.autoC tt_ok rfl rfl rfl trivial
      replace H := of_f H h16
      refine WC.skip ?_
      refine QB.n (QT.n ?_)
      refine WC.region ?_
      refine WL.run 2 tt_ok sg0 rfl rfl trivial ?_
      refine WL.nil ?_
      refine QT.n ?_
      exact ⟨⟨(k9, (IntKind.i64.wrap (s8.1 + 1), (aset 2 s8.2.1 s8.1.toNat x13.1), x13.2.s, x13.2.at_, x13.2.err)), H⟩, Nat.lt_succ_self _, Less.mk' ⟨rfl, rfl, rfl, rfl, rfl, rfl, rfl, rfl, trivial⟩ ⟨rfl, rfl, rfl, rfl, trivial⟩⟩
    replace H := of_f H h12
    refine WC.region ?_
    refine WL.run 2 tt_ok sg0 rfl rfl trivial ?_
    obtain ⟨x17, hx17, H⟩ := of_bind H
    refine WL.call [] (octet_In_Num_s 2140 rfl _ hx17) octet_In_Num_f rfl rfl ⟨rfl, trivial⟩ rfl rfl rfl ?_
    refine WL.yv (LJ.Y.min rfl rfl rfl) rfl rfl rfl ?_
    refine WL.run 1 tt_ok sg0 rfl rfl trivial ?_
    obtain ⟨g18, H⟩ := of_need H
    refine WL.yv (LJ.Y.idxPtrA 2 s8.1 (by kernel_rfl) rfl rfl rfl (nIn_ok g18)) rfl rfl rfl ?_
    refine WL.wo (WO.storePtrA 2 0 (fun x : Int => DV.int .i64 x) s8.2.1 (IntKind.i64.wrap (iMin x17.1 (2147483648 : Int))) s8.1 (cs' := [.d (.int .i64 ((aset 2 s8.2.1 s8.1.toNat (IntKind.i64.wrap (iMin x17.1 (2147483648 : Int)))).getD 0 default)), .d (.int .i64 ((aset 2 s8.2.1 s8.1.toNat (IntKind.i64.wrap (iMin x17.1 (2147483648 : Int)))).getD 1 default))]) rfl rfl rfl rfl rfl (by kernel_rfl) rfl rfl (nIn_ok g18) rfl rfl rfl) rfl ?_
    refine WL.nil ?_
    refine QT.n ?_
    refine WC.seq ?_
    refine WC.region ?_
    refine WL.run 1 tt_ok sg0 rfl rfl trivial ?_
    obtain ⟨x19, hx19, H⟩ := of_bind H
    refine WL.call [] (octet_In_Err_s 2140 rfl _ hx19) octet_In_Err_f rfl rfl ⟨rfl, trivial⟩ rfl rfl rfl ?_
    refine WL.run 1 tt_ok sg0 rfl rfl trivial ?_
    refine WL.nil ?_
    refine QT.n ?_
    refine WC.seq ?_
    refine WC.region ?_
    refine WL.run 2 tt_ok sg0 rfl rfl trivial ?_
    refine WL.nil ?_
    refine QT.n ?_
    refine WC.cond rfl (fun h20 => ?_) (fun h20 => ?_)
    · replace H := of_t H h20
      refine WC.seq ?_
      refine WC.region ?_
      refine WL.run 2 tt_ok sg0 rfl rfl trivial ?_
      refine WL.eff 0 tt_ok et_ok eg0 rfl rfl rfl trivial ?_
      refine WL.run 2 tt_ok sg0 rfl rfl trivial ?_
      refine WL.nil ?_
      refine QT.n ?_
      refine WC.ret ?_
      refine QB.r (QT.r (QT.r (QB.r (QT.r ?_))))
      cases H
      exact Ends.autoC tt_ok rfl rfl rfl trivial
    replace H := of_f H h20
    refine WC.skip ?_
    refine QB.n (QT.n ?_)
    refine WC.region ?_
    refine WL.run 2 tt_ok sg0 rfl rfl trivial ?_
    refine WL.nil ?_
    refine QT.n ?_
    exact ⟨⟨(k9, (IntKind.i64.wrap (s8.1 + 1), (aset 2 s8.2.1 s8.1.toNat (IntKind.i64.wrap (iMin x17.1 (2147483648 : Int)))), x17.2.s, x17.2.at_, x17.2.err)), H⟩, Nat.lt_succ_self _, Less.mk' ⟨rfl, rfl, rfl, rfl, rfl, rfl, rfl, rfl, trivial⟩ ⟨rfl, rfl, rfl, rfl, trivial⟩⟩
  replace H := of_f H h10
  refine WC.exit ?_
  refine QT.x (QT.x (QB.hit (QT.n ?_)))
  refine WC.seq ?_
  refine WC.heldP (.one 0 true (.one 1 true (.one 2 true (.one 3 true (.one 4 true (.one 5 false (.one 6 true (.one 7 false .done)))))))) [102, 106, 109, 2140] [102, 109, 2140] rfl (by kernel_rfl) rfl (by kernel_rfl) rfl rfl (fun _ h => h) rfl rfl rfl (fun _ _ _ h => h) fun FK NK wK K => ?_
  obtain ⟨g21, H⟩ := of_need H
  refine WH.yv rfl (LJ.Y.idxPtrA 2 (0 : Int) (by kernel_rfl) rfl rfl rfl (nIn_ok g21)) rfl rfl rfl ?_
  refine WH.yv rfl (LJ.Y.loadPtrA 2 0 (fun k => .int .i64 (s8.2.1.getD k default)) (0 : Int) rfl rfl rfl (by kernel_rfl) rfl (nIn_ok g21)) rfl rfl rfl ?_
  obtain ⟨g22, H⟩ := of_need H
  refine WH.yv rfl (LJ.Y.idxPtrA 2 (1 : Int) (by kernel_rfl) rfl rfl rfl (nIn_ok g22)) rfl rfl rfl ?_
  refine WH.yv rfl (LJ.Y.loadPtrA 2 0 (fun k => .int .i64 (s8.2.1.getD k default)) (1 : Int) rfl rfl rfl (by kernel_rfl) rfl (nIn_ok g22)) rfl rfl rfl ?_
  refine WH.run 1 tt_ok rfl rfl rfl rfl trivial ?_
  refine WH.eff 0 tt_ok et_ok rfl rfl rfl rfl trivial rfl rfl ?_
  refine WH.run 1 tt_ok rfl rfl rfl rfl trivial ?_
  refine WH.eff 0 tt_ok et_ok rfl rfl rfl rfl trivial rfl rfl ?_
  refine WH.nil rfl ?_
  refine QT.n ?_
  refine WC.seq ?_
  refine WC.seq ?_
  refine WC.region ?_
  refine WL.run 1 tt_ok sg0 rfl rfl trivial ?_
  obtain ⟨x23, hx23, H⟩ := of_bind H
  refine WL.call [] (ins_Check_0 _ hx23) ins_Check_f rfl rfl trivial rfl rfl rfl ?_
  refine WL.run 1 tt_ok sg0 rfl rfl trivial ?_
  refine WL.nil ?_
  refine QT.n ?_
  refine WC.seq ?_
  refine WC.region ?_
  refine WL.run 2 tt_ok sg0 rfl rfl trivial ?_
  refine WL.nil ?_
  refine QT.n ?_
  refine WC.cond rfl (fun h24 => ?_) (fun h24 => ?_)
  · replace H := of_t H h24
    refine WC.seq ?_
    refine WC.region ?_
    refine WL.run 2 tt_ok sg0 rfl rfl trivial ?_
    refine WL.eff 0 tt_ok et_ok eg0 rfl rfl rfl trivial ?_
    refine WL.run 2 tt_ok sg0 rfl rfl trivial ?_
    refine WL.nil ?_
    refine QT.n ?_
    refine WC.ret ?_
    refine QT.r ?_
    cases H
    exact Ends.autoC tt_ok rfl rfl rfl trivial
  replace H := of_f H h24
  refine WC.skip ?_
  refine QT.n ?_
  refine WC.seq ?_
  refine WC.heldP (.one 0 true (.one 1 true (.one 2 true (.one 3 true (.one 4 false (.one 5 true (.one 6 false (.one 7 true (.one 8 true .done))))))))) [102, 106, 109, 2140] [106, 109] rfl (by kernel_rfl) rfl (by kernel_rfl) rfl rfl (fun _ h => h) rfl rfl rfl (fun _ _ _ h => h) fun FK NK wK K => ?_
  refine WH.run 4 tt_ok rfl rfl rfl rfl trivial ?_
  obtain ⟨x25, hx25, H⟩ := of_bind H
  refine WH.call [] rfl (octet_In_Left_s 2140 rfl _ hx25) octet_In_Left_f rfl rfl ⟨rfl, trivial⟩ rfl rfl rfl rfl rfl ?_
  refine WH.run 1 tt_ok rfl rfl rfl rfl trivial ?_
  refine WH.eff 0 tt_ok et_ok rfl rfl rfl rfl trivial rfl rfl ?_
  refine WH.run 2 tt_ok rfl rfl rfl rfl trivial ?_
  refine WH.nil rfl ?_
  refine QT.n ?_
  refine WC.ret ?_
  cases H
  exact Ends.autoC tt_ok rfl rfl rfl trivial
theorem ins_Get_f : hasFunc Tryd.prog 12 Tryd.f12 := ⟨Tryd.func12, rfl, by kernel_rfl⟩

/-! ### logjam/logjamlaw07.lives -/
theorem law07_lives_0  {r : Bool} (H : law07_lives = some r) : LJ.Spec Tryd.prog 11 [] [] (.d (.bool r)) [] := by
  refine LJ.Spec.code Tryd.func11 rfl 40 rfl rfl [] rfl fun w0 F0 S0 B0 => ?_
  unfold law07_lives at H
  refine WC.seq ?_
  refine WC.region ?_
  refine WL.run 1 tt_ok sg0 rfl rfl trivial ?_
  refine WL.nil ?_
  refine QT.n ?_
  refine WC.seq ?_
  refine WC.region ?_
  refine WL.run 1 tt_ok sg0 rfl rfl trivial ?_
  obtain ⟨x1, hx1, H⟩ := of_bind H
  refine WL.call [] (ins_Put_0 _ hx1) ins_Put_f rfl rfl trivial rfl rfl rfl ?_
  refine WL.run 5 tt_ok sg0 rfl rfl trivial ?_
  refine WL.nil ?_
  refine QT.n ?_
  refine WC.seq ?_
  refine WC.region ?_
  obtain ⟨x2, hx2, H⟩ := of_bind H
  refine WL.call [] (ins_Get_0 _ hx2) ins_Get_f rfl rfl trivial rfl rfl rfl ?_
  refine WL.run 4 tt_ok sg0 rfl rfl trivial ?_
  refine WL.alloc 103 tt_ok rfl rfl rfl ?_
  refine WL.eff 0 tt_ok et_ok eg0 rfl rfl rfl trivial ?_
  refine WL.run 2 tt_ok sg0 rfl rfl trivial ?_
  refine WL.nil ?_
  refine QT.n ?_
  refine WC.seq ?_
  refine WC.region ?_
  refine WL.run 3 tt_ok sg0 rfl rfl trivial ?_
  refine WL.sect 2 2 true tt_ok sg0 rfl rfl (fun _ => trivial) ?_
  refine WL.run 2 tt_ok sg0 rfl rfl ⟨by first | exact id | exact fun h => by rw [h]; rfl | simp_all, trivial⟩ ?_
  refine WL.split (g := 22) rfl (fun h3 => ?_) (fun h3 => ?_)
  · replace H := of_t H h3
    refine WL.grun 2 6 true 22 tt_ok sg0 rfl rfl rfl rfl trivial ?_
    refine WL.gyv (LJ.Y.structEq .eql (.inl rfl) rfl rfl rfl (by kernel_rfl) rfl) rfl rfl rfl rfl rfl rfl ?_
    refine WL.pickT rfl rfl rfl rfl rfl rfl ?_
    refine WL.run 1 tt_ok sg0 rfl rfl trivial ?_
    refine WL.sect 2 11 true tt_ok sg0 rfl rfl (fun _ => trivial) ?_
    refine WL.run 2 tt_ok sg0 rfl rfl ⟨by first | exact id | exact fun h => by rw [h]; rfl | simp_all, trivial⟩ ?_
    refine WL.sect 2 15 true tt_ok sg0 rfl rfl (fun _ => trivial) ?_
    refine WL.run 2 tt_ok sg0 rfl rfl ⟨by first | exact id | exact fun h => by rw [h]; rfl | simp_all, trivial⟩ ?_
    obtain ⟨x4, hx4, H⟩ := of_bind H
    refine WL.sect 3 19 true tt_ok [PSig.at' ins_Check_f (((((iEq x2.1.Op 1) && ((iEq x2.1.A 7) && ((iEq x2.1.B 0) && true))) && (iEq x2.2.1 2)) && (iEq x2.2.2 0)) = true) rfl (fun hb => ins_Check_0 _ (of_t hx4 hb))] rfl rfl (fun hb => ⟨⟨hb, rfl⟩, trivial⟩) ?_
    refine WL.run 2 tt_ok sg0 rfl rfl ⟨by first | exact id | exact fun h => by rw [h]; rfl | simp_all, trivial⟩ ?_
    refine WL.nil ?_
    refine QT.n ?_
    refine WC.ret ?_
    cases H
    exact Ends.auto rfl rfl rfl trivial
  · replace H := of_f H h3
    refine WL.gskips 3 6 true 22 rfl rfl rfl rfl ?_
    refine WL.pickF rfl rfl rfl rfl rfl rfl ?_
    refine WL.run 1 tt_ok sg0 rfl rfl trivial ?_
    refine WL.gskips 2 11 true 27 rfl rfl rfl rfl ?_
    refine WL.pickF rfl rfl rfl rfl rfl rfl ?_
    refine WL.run 1 tt_ok sg0 rfl rfl trivial ?_
    refine WL.gskips 2 15 true 31 rfl rfl rfl rfl ?_
    refine WL.pickF rfl rfl rfl rfl rfl rfl ?_
    refine WL.run 1 tt_ok sg0 rfl rfl trivial ?_
    refine WL.gskips 3 19 true 35 rfl rfl rfl rfl ?_
    refine WL.pickF rfl rfl rfl rfl rfl rfl ?_
    refine WL.run 1 tt_ok sg0 rfl rfl trivial ?_
    refine WL.nil ?_
    refine QT.n ?_
    refine WC.ret ?_
    cases H
    exact Ends.auto rfl rfl rfl trivial
theorem law07_lives_f : hasFunc Tryd.prog 11 Tryd.f11 := ⟨Tryd.func11, rfl, by kernel_rfl⟩

/-! ### logjam/logjamlaw07.InsChecks -/
theorem law07_InsChecks_0 (a0 : T_api_Ins) {r : Bool} (H : law07_InsChecks a0 = some r) : LJ.Spec Tryd.prog 3 [.d (.agg [.int .i64 a0.Op, .int .i64 a0.A, .int .i64 a0.B])] [] (.d (.bool r)) [] := by
  refine LJ.Spec.code Tryd.func3 rfl 41 rfl rfl [] rfl fun w0 F0 S0 B0 => ?_
  unfold law07_InsChecks at H
  refine WC.seq ?_
  refine WC.region ?_
  refine WL.eff 101 tt_ok et_ok eg0 rfl rfl rfl trivial ?_
  refine WL.run 1 tt_ok sg0 rfl rfl trivial ?_
  refine WL.nil ?_
  refine QT.n ?_
  refine WC.seq ?_
  refine WC.region ?_
  refine WL.run 1 tt_ok sg0 rfl rfl trivial ?_
  obtain ⟨x1, hx1, H⟩ := of_bind H
  refine WL.call [] (ref07_Check_0 _ hx1) ref07_Check_f rfl rfl trivial rfl rfl rfl ?_
  refine WL.run 1 tt_ok sg0 rfl rfl trivial ?_
  refine WL.nil ?_
  refine QT.n ?_
  refine WC.seq ?_
  refine WC.region ?_
  refine WL.run 1 tt_ok sg0 rfl rfl trivial ?_
  obtain ⟨x2, hx2, H⟩ := of_bind H
  refine WL.call [] (ins_Put_0 _ hx2) ins_Put_f rfl rfl trivial rfl rfl rfl ?_
  refine WL.run 5 tt_ok sg0 rfl rfl trivial ?_
  refine WL.nil ?_
  refine QT.n ?_
  refine WC.seq ?_
  refine WC.seq ?_
  refine WC.region ?_
  refine WL.run 1 tt_ok sg0 rfl rfl trivial ?_
  obtain ⟨x3, hx3, H⟩ := of_bind H
  refine WL.call [] (ins_Check_0 _ hx3) ins_Check_f rfl rfl trivial rfl rfl rfl ?_
  refine WL.run 3 tt_ok sg0 rfl rfl trivial ?_
  refine WL.sect 3 4 false tt_ok sg0 rfl rfl (fun _ => trivial) ?_
  refine WL.run 1 tt_ok sg0 rfl rfl ⟨by first | exact id | exact fun h => by rw [h]; rfl | simp_all, trivial⟩ ?_
  refine WL.nil ?_
  refine QT.n ?_
  refine WC.cond rfl (fun h4 => ?_) (fun h4 => ?_)
  · replace H := of_t H h4
    refine WC.seq ?_
    refine WC.region ?_
    refine WL.run 1 tt_ok sg0 rfl rfl trivial ?_
    refine WL.nil ?_
    refine QT.n ?_
    refine WC.ret ?_
    refine QT.r ?_
    cases H
    exact Ends.auto rfl rfl rfl trivial
  replace H := of_f H h4
  refine WC.skip ?_
  refine QT.n ?_
  refine WC.seq ?_
  refine WC.region ?_
  refine WL.run 3 tt_ok sg0 rfl rfl trivial ?_
  refine WL.sect 2 2 true tt_ok sg0 rfl rfl (fun _ => trivial) ?_
  refine WL.run 2 tt_ok sg0 rfl rfl ⟨by first | exact id | exact fun h => by rw [h]; rfl | simp_all, trivial⟩ ?_
  refine WL.sect 3 6 false tt_ok sg0 rfl rfl (fun _ => trivial) ?_
  obtain ⟨x5, hx5, H⟩ := of_bind H
  refine WL.sect 4 9 true tt_ok [PSig.at' ref07_Put_f (((!((iNe x1 0) && (sEq x2.1 ByteArray.empty))) && (iEq x1 0)) = true) rfl (fun hb => ref07_Put_0 _ (of_t hx5 hb))] rfl rfl (fun hb => ⟨⟨hb, rfl⟩, trivial⟩) ?_
  refine WL.sect 1 6 false tt_ok sg0 rfl rfl (fun hb => ⟨by first | exact id | exact ⟨hb, fun h => by rw [hb, h]; rfl⟩ | exact ⟨hb, id⟩ | exact fun h => by rw [hb, h]; rfl | exact fun h => by rw [h]; rfl | simp_all, trivial⟩) ?_
  refine WL.run 2 tt_ok sg0 rfl rfl ⟨by first | exact id | exact fun h => by rw [h]; rfl | simp_all, trivial⟩ ?_
  obtain ⟨x6, hx6, H⟩ := of_bind H
  refine WL.sect 1 16 true tt_ok [PSig.at' law07_lives_f ((((iNe x1 0) && (sEq x2.1 ByteArray.empty)) || ((iEq x1 0) && (sEq x2.1 x5))) = true) rfl (fun hb => law07_lives_0  (of_t hx6 hb))] rfl rfl (fun hb => ⟨⟨hb, rfl⟩, trivial⟩) ?_
  refine WL.run 2 tt_ok sg0 rfl rfl ⟨by first | exact id | exact fun h => by rw [h]; rfl | simp_all, trivial⟩ ?_
  refine WL.nil ?_
  refine QT.n ?_
  refine WC.ret ?_
  cases H
  exact Ends.auto rfl rfl rfl trivial
theorem law07_InsChecks_f : hasFunc Tryd.prog 3 Tryd.f3 := ⟨Tryd.func3, rfl, by kernel_rfl⟩

/-! ### logjam/logjamref01.Fail -/
theorem ref01_Fail_0 (a0 : T_ref01_R) (a1 : Int) {r : T_ref01_R} (H : ref01_Fail a0 a1 = some r) : LJ.Spec Tryd.prog 45 [.d (.agg [.str a0.S, .int .i64 a0.At, .int .i64 a0.Err]), .d (.int .i64 a1)] [] (.d (.agg [.str r.S, .int .i64 r.At, .int .i64 r.Err])) [] := by
  refine LJ.Spec.code Tryd.func45 rfl 15 rfl rfl [] rfl fun w0 F0 S0 B0 => ?_
  unfold ref01_Fail at H
  refine WC.seq ?_
  refine WC.region ?_
  refine WL.eff 102 tt_ok et_ok eg0 rfl rfl rfl trivial ?_
  refine WL.alloc 104 tt_ok rfl rfl rfl ?_
  refine WL.nil ?_
  refine QT.n ?_
  refine WC.seq ?_
  refine WC.seq ?_
  refine WC.region ?_
  refine WL.run 3 tt_ok sg0 rfl rfl trivial ?_
  refine WL.nil ?_
  refine QT.n ?_
  refine WC.cond rfl (fun h1 => ?_) (fun h1 => ?_)
  · replace H := of_t H h1
    refine WC.region ?_
    refine WL.run 5 tt_ok sg0 rfl rfl trivial ?_
    refine WL.eff 0 tt_ok et_ok eg0 rfl rfl rfl trivial ?_
    refine WL.run 1 tt_ok sg0 rfl rfl trivial ?_
    refine WL.eff 0 tt_ok et_ok eg0 rfl rfl rfl trivial ?_
    refine WL.nil ?_
    refine QT.n ?_
    refine WC.seq ?_
    refine WC.region ?_
    refine WL.run 1 tt_ok sg0 rfl rfl trivial ?_
    refine WL.eff 0 tt_ok et_ok eg0 rfl rfl rfl trivial ?_
    refine WL.nil ?_
    refine QT.n ?_
    refine WC.ret ?_
    cases H
    exact Ends.autoC tt_ok rfl rfl rfl trivial
  replace H := of_f H h1
  refine WC.skip ?_
  refine QT.n ?_
  refine WC.seq ?_
  refine WC.region ?_
  refine WL.run 1 tt_ok sg0 rfl rfl trivial ?_
  refine WL.eff 0 tt_ok et_ok eg0 rfl rfl rfl trivial ?_
  refine WL.nil ?_
  refine QT.n ?_
  refine WC.ret ?_
  cases H
  exact Ends.autoC tt_ok rfl rfl rfl trivial
theorem ref01_Fail_f : hasFunc Tryd.prog 45 Tryd.f45 := ⟨Tryd.func45, rfl, by kernel_rfl⟩

/-! ### logjam/logjamref01.Byte -/
theorem ref01_Byte_0 (a0 : T_ref01_R) {r : Int × T_ref01_R} (H : ref01_Byte a0 = some r) : LJ.Spec Tryd.prog 40 [.d (.agg [.str a0.S, .int .i64 a0.At, .int .i64 a0.Err])] [] (.tup [.d (.int .i64 r.1), .d (.agg [.str r.2.S, .int .i64 r.2.At, .int .i64 r.2.Err])]) [] := by
  refine LJ.Spec.code Tryd.func40 rfl 25 rfl rfl [] rfl fun w0 F0 S0 B0 => ?_
  unfold ref01_Byte at H
  refine WC.seq ?_
  refine WC.region ?_
  refine WL.eff 101 tt_ok et_ok eg0 rfl rfl rfl trivial ?_
  refine WL.run 1 tt_ok sg0 rfl rfl trivial ?_
  refine WL.alloc 103 tt_ok rfl rfl rfl ?_
  refine WL.nil ?_
  refine QT.n ?_
  refine WC.seq ?_
  refine WC.seq ?_
  refine WC.region ?_
  refine WL.run 6 tt_ok sg0 rfl rfl trivial ?_
  refine WL.nil ?_
  refine QT.n ?_
  refine WC.cond rfl (fun h1 => ?_) (fun h1 => ?_)
  · replace H := of_t H h1
    refine WC.seq ?_
    refine WC.region ?_
    refine WL.run 1 tt_ok sg0 rfl rfl trivial ?_
    obtain ⟨x2, hx2, H⟩ := of_bind H
    refine WL.call [] (ref01_Fail_0 _ _ hx2) ref01_Fail_f rfl rfl trivial rfl rfl rfl ?_
    refine WL.run 1 tt_ok sg0 rfl rfl trivial ?_
    refine WL.eff 0 tt_ok et_ok eg0 rfl rfl rfl trivial ?_
    refine WL.nil ?_
    refine QT.n ?_
    refine WC.ret ?_
    refine QT.r ?_
    cases H
    exact Ends.autoC tt_ok rfl rfl rfl trivial
  replace H := of_f H h1
  refine WC.skip ?_
  refine QT.n ?_
  refine WC.seq ?_
  refine WC.region ?_
  obtain ⟨g3, H⟩ := of_need H
  refine WL.run 7 tt_ok sg0 rfl rfl ⟨(nIn_ok g3), trivial⟩ ?_
  refine WL.nil ?_
  refine QT.n ?_
  refine WC.seq ?_
  refine WC.region ?_
  refine WL.run 4 tt_ok sg0 rfl rfl trivial ?_
  refine WL.eff 0 tt_ok et_ok eg0 rfl rfl rfl trivial ?_
  refine WL.nil ?_
  refine QT.n ?_
  refine WC.seq ?_
  refine WC.heldP (.one 0 true (.one 1 true (.one 2 true (.one 3 false .done)))) [101, 103] [101] rfl (by kernel_rfl) rfl (by kernel_rfl) rfl rfl (fun _ h => h) rfl rfl rfl (fun _ _ _ h => h) fun FK NK wK K => ?_
  refine WH.run 3 tt_ok rfl rfl rfl rfl trivial ?_
  refine WH.eff 0 tt_ok et_ok rfl rfl rfl rfl trivial rfl rfl ?_
  refine WH.nil rfl ?_
  refine QT.n ?_
  refine WC.ret ?_
  cases H
  exact Ends.autoC tt_ok rfl rfl rfl trivial
theorem ref01_Byte_f : hasFunc Tryd.prog 40 Tryd.f40 := ⟨Tryd.func40, rfl, by kernel_rfl⟩

/-! ### logjam/logjamref01.Number -/
theorem ref01_Number_0 (a0 : T_ref01_R) {r : Int × T_ref01_R} (H : ref01_Number a0 = some r) : LJ.Spec Tryd.prog 42 [.d (.agg [.str a0.S, .int .i64 a0.At, .int .i64 a0.Err])] [] (.tup [.d (.int .u64 r.1), .d (.agg [.str r.2.S, .int .i64 r.2.At, .int .i64 r.2.Err])]) [] := by
  refine LJ.Spec.code Tryd.func42 rfl 52 rfl rfl [] rfl fun w0 F0 S0 B0 => ?_
  unfold ref01_Number at H
  refine WC.seq ?_
  refine WC.region ?_
  refine WL.eff 101 tt_ok et_ok eg0 rfl rfl rfl trivial ?_
  refine WL.run 1 tt_ok sg0 rfl rfl trivial ?_
  refine WL.alloc 103 tt_ok rfl rfl rfl ?_
  refine WL.nil ?_
  refine QT.n ?_
  refine WC.seq ?_
  refine WC.region ?_
  refine WL.run 3 tt_ok sg0 rfl rfl trivial ?_
  refine WL.nil ?_
  refine QT.n ?_
  refine WC.seq ?_
  refine WC.seq ?_
  refine WC.region ?_
  refine WL.run 1 tt_ok sg0 rfl rfl trivial ?_
  refine WL.nil ?_
  refine QT.n ?_
  refine WC.block ?_
  refine WC.loop (ι := {x : Nat × (Int × Int × Int × ByteArray × Int × Int) // ref01_Number_l2 x.1 x.2 = some r}) (fun x => [(1, .ptr 101 0), (3, .ptr 103 0), (4, .d (.int .u64 x.1.2.1)), (5, .d (.int .u64 x.1.2.2.1)), (7, .d (.int .i64 x.1.2.2.2.1))]) (fun x => [(101, .box 59 [.d (.str x.1.2.2.2.2.1), .d (.int .i64 x.1.2.2.2.2.2.1), .d (.int .i64 x.1.2.2.2.2.2.2)]), (103, .box 59 [.d (.str ByteArray.empty), .d (.int .i64 0), .d (.int .i64 0)])]) (fun x => x.1.1) ⟨(fuel, (0, 1, 0, a0.S, a0.At, a0.Err)), H⟩ (Less.mk' ⟨rfl, rfl, rfl, rfl, rfl, trivial⟩ ⟨rfl, rfl, trivial⟩) fun x => ?_
  obtain ⟨⟨k2, s1⟩, H⟩ := x
  rcases k2 with _ | k2
  · exact of_none H
  rw [ref01_Number_l2] at H
  refine WC.seq ?_
  refine WC.seq ?_
  refine WC.region ?_
  refine WL.run 2 tt_ok sg0 rfl rfl trivial ?_
  refine WL.nil ?_
  refine QT.n ?_
  refine WC.cond rfl (fun h3 => ?_) (fun h3 => ?_)
  · replace H := of_t H h3
    refine WC.skip ?_
    refine QT.n ?_
    refine WC.seq ?_
    refine WC.block ?_
    refine WC.seq ?_
    refine WC.region ?_
    refine WL.run 1 tt_ok sg0 rfl rfl trivial ?_
    obtain ⟨x4, hx4, H⟩ := of_bind H
    refine WL.call [] (ref01_Byte_0 _ hx4) ref01_Byte_f rfl rfl trivial rfl rfl rfl ?_
    refine WL.run 4 tt_ok sg0 rfl rfl trivial ?_
    refine WL.eff 0 tt_ok et_ok eg0 rfl rfl rfl trivial ?_
    refine WL.nil ?_
    refine QT.n ?_
    refine WC.seq ?_
    refine WC.seq ?_
    refine WC.region ?_
    refine WL.run 3 tt_ok sg0 rfl rfl trivial ?_
    refine WL.nil ?_
    refine QT.n ?_
    refine WC.cond rfl (fun h5 => ?_) (fun h5 => ?_)
    · replace H := of_t H h5
      refine WC.seq ?_
      refine WC.heldP (.one 0 true (.one 1 true (.one 2 false .done))) [101, 103] [101] rfl (by kernel_rfl) rfl (by kernel_rfl) rfl rfl (fun _ h => h) rfl rfl rfl (fun _ _ _ h => h) fun FK NK wK K => ?_
      refine WH.run 2 tt_ok rfl rfl rfl rfl trivial ?_
      refine WH.eff 0 tt_ok et_ok rfl rfl rfl rfl trivial rfl rfl ?_
      refine WH.nil rfl ?_
      refine QT.n ?_
      refine WC.ret ?_
      refine QT.r (QB.r (QT.r (QT.r (QB.r (QT.r ?_)))))
      cases H
      exact Ends.autoC tt_ok rfl rfl rfl trivial
    replace H := of_f H h5
    refine WC.skip ?_
    refine QT.n ?_
    refine WC.seq ?_
    refine WC.seq ?_
    refine WC.region ?_
    refine WL.run 3 tt_ok sg0 rfl rfl trivial ?_
    refine WL.sect 2 2 true tt_ok sg0 rfl rfl (fun _ => trivial) ?_
    refine WL.run 2 tt_ok sg0 rfl rfl ⟨by first | exact id | exact fun h => by rw [h]; rfl | simp_all, trivial⟩ ?_
    refine WL.sect 3 6 false tt_ok sg0 rfl rfl (fun _ => trivial) ?_
    refine WL.sect 2 9 true tt_ok sg0 rfl rfl (fun _ => trivial) ?_
    refine WL.sect 1 6 false tt_ok sg0 rfl rfl (fun hb => ⟨by first | exact id | exact ⟨hb, fun h => by rw [hb, h]; rfl⟩ | exact ⟨hb, id⟩ | exact fun h => by rw [hb, h]; rfl | exact fun h => by rw [h]; rfl | simp_all, trivial⟩) ?_
    refine WL.run 1 tt_ok sg0 rfl rfl ⟨by first | exact id | exact fun h => by rw [h]; rfl | simp_all, trivial⟩ ?_
    refine WL.nil ?_
    refine QT.n ?_
    refine WC.cond rfl (fun h6 => ?_) (fun h6 => ?_)
    · replace H := of_t H h6
      refine WC.seq ?_
      refine WC.region ?_
      refine WL.run 1 tt_ok sg0 rfl rfl trivial ?_
      obtain ⟨x7, hx7, H⟩ := of_bind H
      refine WL.call [] (ref01_Fail_0 _ _ hx7) ref01_Fail_f rfl rfl trivial rfl rfl rfl ?_
      refine WL.run 1 tt_ok sg0 rfl rfl trivial ?_
      refine WL.eff 0 tt_ok et_ok eg0 rfl rfl rfl trivial ?_
      refine WL.nil ?_
      refine QT.n ?_
      refine WC.ret ?_
      refine QT.r (QB.r (QT.r (QT.r (QB.r (QT.r ?_)))))
      cases H
      exact Ends.autoC tt_ok rfl rfl rfl trivial
    replace H := of_f H h6
    refine WC.skip ?_
    refine QT.n ?_
    refine WC.seq ?_
    refine WC.region ?_
    refine WL.run 8 tt_ok sg0 rfl rfl trivial ?_
    refine WL.nil ?_
    refine QT.n ?_
    refine WC.seq ?_
    refine WC.seq ?_
    refine WC.region ?_
    refine WL.run 2 tt_ok sg0 rfl rfl trivial ?_
    refine WL.nil ?_
    refine QT.n ?_
    refine WC.cond rfl (fun h8 => ?_) (fun h8 => ?_)
    · replace H := of_t H h8
      refine WC.seq ?_
      refine WC.heldP (.one 0 true (.one 1 true (.one 2 true (.one 3 false .done)))) [101, 103] [101] rfl (by kernel_rfl) rfl (by kernel_rfl) rfl rfl (fun _ h => h) rfl rfl rfl (fun _ _ _ h => h) fun FK NK wK K => ?_
      refine WH.run 3 tt_ok rfl rfl rfl rfl trivial ?_
      refine WH.eff 0 tt_ok et_ok rfl rfl rfl rfl trivial rfl rfl ?_
      refine WH.nil rfl ?_
      refine QT.n ?_
      refine WC.ret ?_
      refine QT.r (QB.r (QT.r (QT.r (QB.r (QT.r ?_)))))
      cases H
      exact Ends.autoC tt_ok rfl rfl rfl trivial
    replace H := of_f H h8
    refine WC.skip ?_
    refine QT.n ?_
    refine WC.region ?_
    refine WL.run 3 tt_ok sg0 rfl rfl trivial ?_
    refine WL.nil ?_
    refine QB.n (QT.n ?_)
    refine WC.region ?_
    refine WL.run 3 tt_ok sg0 rfl rfl trivial ?_
    refine WL.nil ?_
    refine QT.n ?_
    exact ⟨⟨(k2, (IntKind.u64.wrap (s1.1 + (IntKind.u64.wrap ((IntKind.u64.wrap (Int.tmod x4.1 128)) * s1.2.1))), IntKind.u64.wrap (s1.2.1 * 128), IntKind.i64.wrap (s1.2.2.1 + 1), x4.2.S, x4.2.At, x4.2.Err)), H⟩, Nat.lt_succ_self _, Less.mk' ⟨rfl, rfl, rfl, rfl, rfl, trivial⟩ ⟨rfl, rfl, trivial⟩⟩
  replace H := of_f H h3
  refine WC.exit ?_
  refine QT.x (QT.x (QB.hit (QT.n ?_)))
  refine WC.seq ?_
  refine WC.heldP (.one 0 true (.one 1 true (.one 2 true (.one 3 false .done)))) [101, 103] [101] rfl (by kernel_rfl) rfl (by kernel_rfl) rfl rfl (fun _ h => h) rfl rfl rfl (fun _ _ _ h => h) fun FK NK wK K => ?_
  refine WH.run 3 tt_ok rfl rfl rfl rfl trivial ?_
  refine WH.eff 0 tt_ok et_ok rfl rfl rfl rfl trivial rfl rfl ?_
  refine WH.nil rfl ?_
  refine QT.n ?_
  refine WC.ret ?_
  cases H
  exact Ends.autoC tt_ok rfl rfl rfl trivial
theorem ref01_Number_f : hasFunc Tryd.prog 42 Tryd.f42 := ⟨Tryd.func42, rfl, by kernel_rfl⟩

/-! ### logjam/logjamref01.Signed -/
theorem ref01_Signed_0 (a0 : T_ref01_R) {r : Int × T_ref01_R} (H : ref01_Signed a0 = some r) : LJ.Spec Tryd.prog 41 [.d (.agg [.str a0.S, .int .i64 a0.At, .int .i64 a0.Err])] [] (.tup [.d (.int .i64 r.1), .d (.agg [.str r.2.S, .int .i64 r.2.At, .int .i64 r.2.Err])]) [] := by
  refine LJ.Spec.code Tryd.func41 rfl 24 rfl rfl [] rfl fun w0 F0 S0 B0 => ?_
  unfold ref01_Signed at H
  refine WC.seq ?_
  refine WC.region ?_
  refine WL.eff 101 tt_ok et_ok eg0 rfl rfl rfl trivial ?_
  refine WL.run 1 tt_ok sg0 rfl rfl trivial ?_
  refine WL.alloc 103 tt_ok rfl rfl rfl ?_
  refine WL.nil ?_
  refine QT.n ?_
  refine WC.seq ?_
  refine WC.region ?_
  refine WL.run 1 tt_ok sg0 rfl rfl trivial ?_
  obtain ⟨x1, hx1, H⟩ := of_bind H
  refine WL.call [] (ref01_Number_0 _ hx1) ref01_Number_f rfl rfl trivial rfl rfl rfl ?_
  refine WL.run 3 tt_ok sg0 rfl rfl trivial ?_
  refine WL.alloc 105 tt_ok rfl rfl rfl ?_
  refine WL.run 1 tt_ok sg0 rfl rfl trivial ?_
  refine WL.eff 0 tt_ok et_ok eg0 rfl rfl rfl trivial ?_
  refine WL.nil ?_
  refine QT.n ?_
  refine WC.seq ?_
  refine WC.seq ?_
  refine WC.region ?_
  refine WL.run 3 tt_ok sg0 rfl rfl trivial ?_
  refine WL.nil ?_
  refine QT.n ?_
  refine WC.cond rfl (fun h2 => ?_) (fun h2 => ?_)
  · replace H := of_t H h2
    refine WC.seq ?_
    refine WC.heldP (.one 0 true (.one 1 true (.one 2 true (.one 3 true (.one 4 true (.one 5 false .done)))))) [101, 103, 105] [101, 105] rfl (by kernel_rfl) rfl (by kernel_rfl) rfl rfl (fun _ h => h) rfl rfl rfl (fun _ _ _ h => h) fun FK NK wK K => ?_
    refine WH.run 5 tt_ok rfl rfl rfl rfl trivial ?_
    refine WH.eff 0 tt_ok et_ok rfl rfl rfl rfl trivial rfl rfl ?_
    refine WH.nil rfl ?_
    refine QT.n ?_
    refine WC.ret ?_
    refine QT.r ?_
    cases H
    exact Ends.autoC tt_ok rfl rfl rfl trivial
  replace H := of_f H h2
  refine WC.skip ?_
  refine QT.n ?_
  refine WC.seq ?_
  refine WC.heldP (.one 0 true (.one 1 true (.one 2 true (.one 3 true (.one 4 true (.one 5 true (.one 6 true (.one 7 false .done)))))))) [101, 103, 105] [101, 105] rfl (by kernel_rfl) rfl (by kernel_rfl) rfl rfl (fun _ h => h) rfl rfl rfl (fun _ _ _ h => h) fun FK NK wK K => ?_
  refine WH.run 7 tt_ok rfl rfl rfl rfl trivial ?_
  refine WH.eff 0 tt_ok et_ok rfl rfl rfl rfl trivial rfl rfl ?_
  refine WH.nil rfl ?_
  refine QT.n ?_
  refine WC.ret ?_
  cases H
  exact Ends.autoC tt_ok rfl rfl rfl trivial
theorem ref01_Signed_f : hasFunc Tryd.prog 41 Tryd.f41 := ⟨Tryd.func41, rfl, by kernel_rfl⟩

/-! ### logjam/logjamref07.Read -/
theorem ref07_Read_0 (a0 : T_ref01_R) {r : T_api_Ins × T_ref01_R × Int} (H : ref07_Read a0 = some r) : LJ.Spec Tryd.prog 34 [.d (.agg [.str a0.S, .int .i64 a0.At, .int .i64 a0.Err])] [] (.tup [.d (.agg [.int .i64 r.1.Op, .int .i64 r.1.A, .int .i64 r.1.B]), .d (.agg [.str r.2.1.S, .int .i64 r.2.1.At, .int .i64 r.2.1.Err]), .d (.int .i64 r.2.2)]) [] := by
  refine LJ.Spec.code Tryd.func34 rfl 92 rfl rfl [] rfl fun w0 F0 S0 B0 => ?_
  unfold ref07_Read at H
  refine WC.seq ?_
  refine WC.region ?_
  refine WL.eff 101 tt_ok et_ok eg0 rfl rfl rfl trivial ?_
  refine WL.alloc 102 tt_ok rfl rfl rfl ?_
  refine WL.alloc 103 tt_ok rfl rfl rfl ?_
  refine WL.run 1 tt_ok sg0 rfl rfl trivial ?_
  refine WL.nil ?_
  refine QT.n ?_
  refine WC.seq ?_
  refine WC.region ?_
  refine WL.run 1 tt_ok sg0 rfl rfl trivial ?_
  obtain ⟨x1, hx1, H⟩ := of_bind H
  refine WL.call [] (ref01_Byte_0 _ hx1) ref01_Byte_f rfl rfl trivial rfl rfl rfl ?_
  refine WL.run 3 tt_ok sg0 rfl rfl trivial ?_
  refine WL.alloc 106 tt_ok rfl rfl rfl ?_
  refine WL.run 1 tt_ok sg0 rfl rfl trivial ?_
  refine WL.eff 0 tt_ok et_ok eg0 rfl rfl rfl trivial ?_
  refine WL.nil ?_
  refine QT.n ?_
  refine WC.seq ?_
  refine WC.seq ?_
  refine WC.region ?_
  refine WL.run 3 tt_ok sg0 rfl rfl trivial ?_
  refine WL.nil ?_
  refine QT.n ?_
  refine WC.cond rfl (fun h2 => ?_) (fun h2 => ?_)
  · replace H := of_t H h2
    refine WC.seq ?_
    refine WC.heldP (.one 0 true (.one 1 true (.one 2 true (.one 3 true (.one 4 false (.one 5 false (.one 6 true .done))))))) [101, 102, 103, 106] [101, 106] rfl (by kernel_rfl) rfl (by kernel_rfl) rfl rfl (fun _ h => h) rfl rfl rfl (fun _ _ _ h => h) fun FK NK wK K => ?_
    refine WH.run 4 tt_ok rfl rfl rfl rfl trivial ?_
    refine WH.eff 0 tt_ok et_ok rfl rfl rfl rfl trivial rfl rfl ?_
    refine WH.eff 0 tt_ok et_ok rfl rfl rfl rfl trivial rfl rfl ?_
    refine WH.run 1 tt_ok rfl rfl rfl rfl trivial ?_
    refine WH.nil rfl ?_
    refine QT.n ?_
    refine WC.ret ?_
    refine QT.r ?_
    cases H
    exact Ends.autoC tt_ok rfl rfl rfl trivial
  replace H := of_f H h2
  refine WC.skip ?_
  refine QT.n ?_
  refine WC.seq ?_
  refine WC.seq ?_
  refine WC.region ?_
  refine WL.run 1 tt_ok sg0 rfl rfl trivial ?_
  obtain ⟨x3, hx3, H⟩ := of_bind H
  refine WL.call [] (ref06_Known_0 _ hx3) ref06_Known_f rfl rfl trivial rfl rfl rfl ?_
  refine WL.run 1 tt_ok sg0 rfl rfl trivial ?_
  refine WL.nil ?_
  refine QT.n ?_
  refine WC.cond rfl (fun h4 => ?_) (fun h4 => ?_)
  · replace H := of_t H h4
    refine WC.seq ?_
    refine WC.heldP (.one 0 true (.one 1 true (.one 2 false (.one 3 false (.one 4 true .done))))) [101, 102, 103, 106] [101, 106] rfl (by kernel_rfl) rfl (by kernel_rfl) rfl rfl (fun _ h => h) rfl rfl rfl (fun _ _ _ h => h) fun FK NK wK K => ?_
    refine WH.run 2 tt_ok rfl rfl rfl rfl trivial ?_
    refine WH.eff 0 tt_ok et_ok rfl rfl rfl rfl trivial rfl rfl ?_
    refine WH.eff 0 tt_ok et_ok rfl rfl rfl rfl trivial rfl rfl ?_
    refine WH.run 1 tt_ok rfl rfl rfl rfl trivial ?_
    refine WH.nil rfl ?_
    refine QT.n ?_
    refine WC.ret ?_
    refine QT.r ?_
    cases H
    exact Ends.autoC tt_ok rfl rfl rfl trivial
  replace H := of_f H h4
  refine WC.skip ?_
  refine QT.n ?_
  refine WC.seq ?_
  refine WC.region ?_
  refine WL.run 1 tt_ok sg0 rfl rfl trivial ?_
  obtain ⟨x5, hx5, H⟩ := of_bind H
  refine WL.call [] (ref06_Form_0 _ hx5) ref06_Form_f rfl rfl trivial rfl rfl rfl ?_
  refine WL.eff 135 tt_ok et_ok eg0 rfl rfl rfl trivial ?_
  refine WL.run 2 tt_ok sg0 rfl rfl trivial ?_
  refine WL.nil ?_
  refine QT.n ?_
  refine WC.seq ?_
  refine WC.seq ?_
  refine WC.region ?_
  refine WL.run 1 tt_ok sg0 rfl rfl trivial ?_
  refine WL.nil ?_
  refine QT.n ?_
  refine WC.block ?_
  refine WC.loop (ι := {x : Nat × (Int × ByteArray × Int × Int × (List Int)) // ref07_Read_l7 x1 x5 x.1 x.2 = some r}) (fun x => [(2, .ptr 102 0), (3, .ptr 103 0), (5, .d (.int .i64 x1.1)), (6, .ptr 106 0), (7, .d (.str x5)), (8, .own 135), (9, .d (.int .i64 x.1.2.1))]) (fun x => [(102, .box 23 [.d (.int .i64 0), .d (.int .i64 0), .d (.int .i64 0)]), (103, .box 59 [.d (.str ByteArray.empty), .d (.int .i64 0), .d (.int .i64 0)]), (106, .box 59 [.d (.str x.1.2.2.1), .d (.int .i64 x.1.2.2.2.1), .d (.int .i64 x.1.2.2.2.2.1)]), (135, .row 3 1 (x.1.2.2.2.2.2.map enc_i64))]) (fun x => x.1.1) ⟨(fuel, (0, x1.2.S, x1.2.At, x1.2.Err, ([0, 0] : List Int))), H⟩ (Less.mk' ⟨rfl, rfl, rfl, rfl, rfl, rfl, rfl, trivial⟩ ⟨rfl, rfl, rfl, rfl, trivial⟩) fun x => ?_
  obtain ⟨⟨k7, s6⟩, H⟩ := x
  rcases k7 with _ | k7
  · exact of_none H
  rw [ref07_Read_l7] at H
  refine WC.seq ?_
  refine WC.seq ?_
  refine WC.region ?_
  refine WL.run 4 tt_ok sg0 rfl rfl trivial ?_
  refine WL.nil ?_
  refine QT.n ?_
  refine WC.cond rfl (fun h8 => ?_) (fun h8 => ?_)
  · replace H := of_t H h8
    refine WC.skip ?_
    refine QT.n ?_
    refine WC.seq ?_
    refine WC.block ?_
    refine WC.seq ?_
    refine WC.seq ?_
    refine WC.region ?_
    obtain ⟨g9, H⟩ := of_need H
    refine WL.run 4 tt_ok sg0 rfl rfl ⟨(nIn_ok g9), trivial⟩ ?_
    refine WL.nil ?_
    refine QT.n ?_
    refine WC.cond rfl (fun h10 => ?_) (fun h10 => ?_)
    · replace H := of_t H h10
      refine WC.seq ?_
      refine WC.region ?_
      refine WL.run 1 tt_ok sg0 rfl rfl trivial ?_
      obtain ⟨x11, hx11, H⟩ := of_bind H
      refine WL.call [] (ref01_Signed_0 _ hx11) ref01_Signed_f rfl rfl trivial rfl rfl rfl ?_
      refine WL.run 3 tt_ok sg0 rfl rfl trivial ?_
      refine WL.alloc 111 tt_ok rfl rfl rfl ?_
      refine WL.run 1 tt_ok sg0 rfl rfl trivial ?_
      refine WL.eff 0 tt_ok et_ok eg0 rfl rfl rfl trivial ?_
      refine WL.nil ?_
      refine QT.n ?_
      refine WC.heldP (.one 0 true (.one 1 true (.one 2 true (.one 3 true (.one 4 false (.one 5 false (.one 6 false .done))))))) [102, 103, 106, 111] [102, 103, 111] rfl (by kernel_rfl) rfl (by kernel_rfl) rfl rfl (fun _ h => h) rfl rfl rfl (fun _ _ _ h => h) fun FK NK wK K => ?_
      refine WH.mv rfl rfl rfl rfl rfl rfl rfl rfl rfl ?_
      refine WH.run 3 tt_ok rfl rfl rfl rfl trivial ?_
      obtain ⟨g12, H⟩ := of_need H
      refine WH.yvs rfl (LJ.Y.idxRel enc_i64 s6.2.2.2.2 s6.1 tt_ok rfl rfl rfl rfl rfl (nIn_ok g12)) rfl rfl rfl rfl rfl ?_
      refine WH.storeRel enc_i64 s6.2.2.2.2 s6.1 0 x11.1 (.int .i64 x11.1) rfl rfl rfl rfl rfl (fun _ => rfl) rfl (by kernel_rfl) rfl rfl (by first | exact nIn_ok g12 | (have := nIn_ok g12; simpa only [List.length_set, List.length_map] using this)) rfl rfl rfl rfl rfl rfl ?_
      refine WH.eff 0 tt_ok et_ok rfl rfl rfl rfl trivial rfl rfl ?_
      refine WH.nil rfl ?_
      refine QT.n ?_
      refine WC.seq ?_
      refine WC.region ?_
      refine WL.run 3 tt_ok sg0 rfl rfl trivial ?_
      refine WL.nil ?_
      refine QT.n ?_
      refine WC.cond rfl (fun h13 => ?_) (fun h13 => ?_)
      · replace H := of_t H h13
        refine WC.seq ?_
        refine WC.heldP (.one 0 true (.one 1 true (.one 2 true (.one 3 true (.one 4 false (.one 5 false (.one 6 true .done))))))) [102, 103, 106, 111] [106, 111] rfl (by kernel_rfl) rfl (by kernel_rfl) rfl rfl (fun _ h => h) rfl rfl rfl (fun _ _ _ h => h) fun FK NK wK K => ?_
        refine WH.run 4 tt_ok rfl rfl rfl rfl trivial ?_
        refine WH.eff 0 tt_ok et_ok rfl rfl rfl rfl trivial rfl rfl ?_
        refine WH.eff 0 tt_ok et_ok rfl rfl rfl rfl trivial rfl rfl ?_
        refine WH.run 1 tt_ok rfl rfl rfl rfl trivial ?_
        refine WH.nil rfl ?_
        refine QT.n ?_
        refine WC.ret ?_
        refine QB.r (QT.r (QT.r (QB.r (QT.r ?_))))
        cases H
        exact Ends.autoC tt_ok rfl rfl rfl trivial
      replace H := of_f H h13
      refine WC.skip ?_
      refine QB.n (QT.n ?_)
      refine WC.region ?_
      refine WL.run 3 tt_ok sg0 rfl rfl trivial ?_
      refine WL.nil ?_
      refine QT.n ?_
      exact ⟨⟨(k7, (IntKind.i64.wrap (s6.1 + 1), x11.2.S, x11.2.At, x11.2.Err, s6.2.2.2.2.set s6.1.toNat x11.1)), H⟩, Nat.lt_succ_self _, Less.mk' ⟨rfl, rfl, rfl, rfl, rfl, rfl, rfl, trivial⟩ ⟨rfl, rfl, rfl, rfl, trivial⟩⟩
    replace H := of_f H h10
    refine WC.seq ?_
    refine WC.region ?_
    refine WL.run 1 tt_ok sg0 rfl rfl trivial ?_
    obtain ⟨x14, hx14, H⟩ := of_bind H
    refine WL.call [] (ref01_Number_0 _ hx14) ref01_Number_f rfl rfl trivial rfl rfl rfl ?_
    refine WL.run 3 tt_ok sg0 rfl rfl trivial ?_
    refine WL.alloc 113 tt_ok rfl rfl rfl ?_
    refine WL.run 1 tt_ok sg0 rfl rfl trivial ?_
    refine WL.eff 0 tt_ok et_ok eg0 rfl rfl rfl trivial ?_
    refine WL.nil ?_
    refine QT.n ?_
    refine WC.heldP (.one 0 true (.one 1 true (.one 2 true (.one 3 true (.one 4 true (.one 5 true (.one 6 false (.one 7 false (.one 8 false .done))))))))) [102, 103, 106, 113] [102, 103, 113] rfl (by kernel_rfl) rfl (by kernel_rfl) rfl rfl (fun _ h => h) rfl rfl rfl (fun _ _ _ h => h) fun FK NK wK K => ?_
    refine WH.mv rfl rfl rfl rfl rfl rfl rfl rfl rfl ?_
    refine WH.run 2 tt_ok rfl rfl rfl rfl trivial ?_
    refine WH.yv rfl (LJ.Y.min rfl rfl rfl) rfl rfl rfl ?_
    refine WH.run 2 tt_ok rfl rfl rfl rfl trivial ?_
    obtain ⟨g15, H⟩ := of_need H
    refine WH.yvs rfl (LJ.Y.idxRel enc_i64 s6.2.2.2.2 s6.1 tt_ok rfl rfl rfl rfl rfl (nIn_ok g15)) rfl rfl rfl rfl rfl ?_
    refine WH.storeRel enc_i64 s6.2.2.2.2 s6.1 0 (IntKind.i64.wrap (iMin x14.1 (2147483648 : Int))) (.int .i64 (IntKind.i64.wrap (iMin x14.1 (2147483648 : Int)))) rfl rfl rfl rfl rfl (fun _ => rfl) rfl (by kernel_rfl) rfl rfl (by first | exact nIn_ok g15 | (have := nIn_ok g15; simpa only [List.length_set, List.length_map] using this)) rfl rfl rfl rfl rfl rfl ?_
    refine WH.eff 0 tt_ok et_ok rfl rfl rfl rfl trivial rfl rfl ?_
    refine WH.nil rfl ?_
    refine QT.n ?_
    refine WC.seq ?_
    refine WC.region ?_
    refine WL.run 3 tt_ok sg0 rfl rfl trivial ?_
    refine WL.nil ?_
    refine QT.n ?_
    refine WC.cond rfl (fun h16 => ?_) (fun h16 => ?_)
    · replace H := of_t H h16
      refine WC.seq ?_
      refine WC.heldP (.one 0 true (.one 1 true (.one 2 true (.one 3 true (.one 4 false (.one 5 false (.one 6 true .done))))))) [102, 103, 106, 113] [106, 113] rfl (by kernel_rfl) rfl (by kernel_rfl) rfl rfl (fun _ h => h) rfl rfl rfl (fun _ _ _ h => h) fun FK NK wK K => ?_
      refine WH.run 4 tt_ok rfl rfl rfl rfl trivial ?_
      refine WH.eff 0 tt_ok et_ok rfl rfl rfl rfl trivial rfl rfl ?_
      refine WH.eff 0 tt_ok et_ok rfl rfl rfl rfl trivial rfl rfl ?_
      refine WH.run 1 tt_ok rfl rfl rfl rfl trivial ?_
      refine WH.nil rfl ?_
      refine QT.n ?_
      refine WC.ret ?_
      refine QB.r (QT.r (QT.r (QB.r (QT.r ?_))))
      cases H
      exact Ends.autoC tt_ok rfl rfl rfl trivial
    replace H := of_f H h16
    refine WC.skip ?_
    refine QB.n (QT.n ?_)
    refine WC.region ?_
    refine WL.run 3 tt_ok sg0 rfl rfl trivial ?_
    refine WL.nil ?_
    refine QT.n ?_
    exact ⟨⟨(k7, (IntKind.i64.wrap (s6.1 + 1), x14.2.S, x14.2.At, x14.2.Err, s6.2.2.2.2.set s6.1.toNat (IntKind.i64.wrap (iMin x14.1 (2147483648 : Int))))), H⟩, Nat.lt_succ_self _, Less.mk' ⟨rfl, rfl, rfl, rfl, rfl, rfl, rfl, trivial⟩ ⟨rfl, rfl, rfl, rfl, trivial⟩⟩
  replace H := of_f H h8
  refine WC.exit ?_
  refine QT.x (QT.x (QB.hit (QT.n ?_)))
  refine WC.seq ?_
  obtain ⟨g17_2_1, H⟩ := of_need H
  obtain ⟨g17_5_1, H⟩ := of_need H
  refine WC.heldF [(2, .ptr 102 0), (3, .ptr 103 0), (6, .ptr 106 0), (14, .ptr 114 0)] [(102, .box 23 [.d (.int .i64 0), .d (.int .i64 0), .d (.int .i64 0)]), (103, .box 59 [.d (.str ByteArray.empty), .d (.int .i64 0), .d (.int .i64 0)]), (106, .box 59 [.d (.str s6.2.1), .d (.int .i64 s6.2.2.1), .d (.int .i64 s6.2.2.2.1)]), (114, .box 23 [.d (.int .i64 x1.1), .d (.int .i64 (s6.2.2.2.2.getD (0 : Int).toNat default)), .d (.int .i64 (s6.2.2.2.2.getD (1 : Int).toNat default))])] (.one 0 true (.one 1 true (.one 4 true (.fork (.one 2 false (.fork (.one 3 false (.fork (.one 5 false (.fork (.one 6 false (.one 7 true (.one 8 false (.one 9 false .done)))) (.one 8 false (.one 6 false (.one 7 true (.one 9 false .done)))))) (.one 8 false (.one 5 false (.one 6 false (.one 7 true (.one 9 false .done))))))) (.fork (.one 5 false (.fork (.one 3 false (.fork (.one 6 false (.one 7 true (.one 8 false (.one 9 false .done)))) (.one 8 false (.one 6 false (.one 7 true (.one 9 false .done)))))) (.fork (.one 6 false (.fork (.one 3 false (.one 7 true (.one 8 false (.one 9 false .done)))) (.one 8 false (.one 3 false (.one 7 true (.one 9 false .done)))))) (.one 8 false (.fork (.one 3 false (.one 6 false (.one 7 true (.one 9 false .done)))) (.one 6 false (.one 3 false (.one 7 true (.one 9 false .done))))))))) (.one 8 false (.fork (.one 3 false (.one 5 false (.one 6 false (.one 7 true (.one 9 false .done))))) (.one 5 false (.fork (.one 3 false (.one 6 false (.one 7 true (.one 9 false .done)))) (.one 6 false (.one 3 false (.one 7 true (.one 9 false .done))))))))))) (.fork (.one 5 false (.fork (.one 2 false (.fork (.one 3 false (.fork (.one 6 false (.one 7 true (.one 8 false (.one 9 false .done)))) (.one 8 false (.one 6 false (.one 7 true (.one 9 false .done)))))) (.fork (.one 6 false (.fork (.one 3 false (.one 7 true (.one 8 false (.one 9 false .done)))) (.one 8 false (.one 3 false (.one 7 true (.one 9 false .done)))))) (.one 8 false (.fork (.one 3 false (.one 6 false (.one 7 true (.one 9 false .done)))) (.one 6 false (.one 3 false (.one 7 true (.one 9 false .done))))))))) (.fork (.one 6 false (.fork (.one 2 false (.fork (.one 3 false (.one 7 true (.one 8 false (.one 9 false .done)))) (.one 8 false (.one 3 false (.one 7 true (.one 9 false .done)))))) (.one 8 false (.one 2 false (.one 3 false (.one 7 true (.one 9 false .done))))))) (.one 8 false (.fork (.one 2 false (.fork (.one 3 false (.one 6 false (.one 7 true (.one 9 false .done)))) (.one 6 false (.one 3 false (.one 7 true (.one 9 false .done)))))) (.one 6 false (.one 2 false (.one 3 false (.one 7 true (.one 9 false .done)))))))))) (.one 8 false (.fork (.one 2 false (.fork (.one 3 false (.one 5 false (.one 6 false (.one 7 true (.one 9 false .done))))) (.one 5 false (.fork (.one 3 false (.one 6 false (.one 7 true (.one 9 false .done)))) (.one 6 false (.one 3 false (.one 7 true (.one 9 false .done)))))))) (.one 5 false (.fork (.one 2 false (.fork (.one 3 false (.one 6 false (.one 7 true (.one 9 false .done)))) (.one 6 false (.one 3 false (.one 7 true (.one 9 false .done)))))) (.one 6 false (.one 2 false (.one 3 false (.one 7 true (.one 9 false .done)))))))))))))) [102, 103, 106] [102, 103, 106] rfl (by kernel_rfl) rfl (by kernel_rfl) rfl rfl (fun _ h => h) rfl rfl rfl (fun FK NK wK K => ?_) ?_
  · refine WH.run 1 tt_ok rfl rfl rfl rfl trivial ?_
    refine WH.mv rfl rfl rfl rfl rfl rfl rfl rfl rfl ?_
    refine WH.mv rfl rfl rfl rfl rfl rfl rfl rfl rfl ?_
    refine WH.fork ?_ (WH.fork ?_ ?_)
    · refine WH.yvs rfl (LJ.Y.idxRel enc_i64 s6.2.2.2.2 (0 : Int) tt_ok rfl rfl rfl rfl rfl (nIn_ok g17_2_1)) rfl rfl rfl rfl rfl ?_
      refine WH.fork ?_ (WH.fork ?_ ?_)
      · refine WH.yvs rfl (LJ.Y.loadRel enc_i64 s6.2.2.2.2 (0 : Int) 0 rfl rfl (fun _ => rfl) rfl (by kernel_rfl) rfl (by first | exact nIn_ok g17_2_1 | (have := nIn_ok g17_2_1; simpa only [List.length_set, List.length_map] using this))) rfl rfl rfl rfl rfl ?_
        refine WH.fork ?_ ?_
        · refine WH.yvs rfl (LJ.Y.idxRel enc_i64 s6.2.2.2.2 (1 : Int) tt_ok rfl rfl rfl rfl rfl (nIn_ok g17_5_1)) rfl rfl rfl rfl rfl ?_
          refine WH.fork ?_ ?_
          · refine WH.yvs rfl (LJ.Y.loadRel enc_i64 s6.2.2.2.2 (1 : Int) 0 rfl rfl (fun _ => rfl) rfl (by kernel_rfl) rfl (by first | exact nIn_ok g17_5_1 | (have := nIn_ok g17_5_1; simpa only [List.length_set, List.length_map] using this))) rfl rfl rfl rfl rfl ?_
            refine WH.run 1 tt_ok rfl rfl rfl rfl trivial ?_
            refine WH.alloc 114 tt_ok rfl rfl rfl rfl rfl rfl ?_
            refine WH.eff 0 tt_ok et_ok rfl rfl rfl rfl trivial rfl rfl ?_
            exact WH.nilF rfl (LessW.mk' ⟨AVle.of rfl, AVle.of rfl, AVle.of rfl, AVle.of rfl, trivial⟩ ⟨rfl, rfl, rfl, rfl, trivial⟩)
          · refine WH.alloc 114 tt_ok rfl rfl rfl rfl rfl rfl ?_
            refine WH.yvs rfl (LJ.Y.loadRel enc_i64 s6.2.2.2.2 (1 : Int) 0 rfl rfl (fun _ => rfl) rfl (by kernel_rfl) rfl (by first | exact nIn_ok g17_5_1 | (have := nIn_ok g17_5_1; simpa only [List.length_set, List.length_map] using this))) rfl rfl rfl rfl rfl ?_
            refine WH.run 1 tt_ok rfl rfl rfl rfl trivial ?_
            refine WH.eff 0 tt_ok et_ok rfl rfl rfl rfl trivial rfl rfl ?_
            exact WH.nilF rfl (LessW.mk' ⟨AVle.of rfl, AVle.of rfl, AVle.of rfl, AVle.of rfl, trivial⟩ ⟨rfl, rfl, rfl, rfl, trivial⟩)
        · refine WH.alloc 114 tt_ok rfl rfl rfl rfl rfl rfl ?_
          refine WH.yvs rfl (LJ.Y.idxRel enc_i64 s6.2.2.2.2 (1 : Int) tt_ok rfl rfl rfl rfl rfl (nIn_ok g17_5_1)) rfl rfl rfl rfl rfl ?_
          refine WH.yvs rfl (LJ.Y.loadRel enc_i64 s6.2.2.2.2 (1 : Int) 0 rfl rfl (fun _ => rfl) rfl (by kernel_rfl) rfl (by first | exact nIn_ok g17_5_1 | (have := nIn_ok g17_5_1; simpa only [List.length_set, List.length_map] using this))) rfl rfl rfl rfl rfl ?_
          refine WH.run 1 tt_ok rfl rfl rfl rfl trivial ?_
          refine WH.eff 0 tt_ok et_ok rfl rfl rfl rfl trivial rfl rfl ?_
          exact WH.nilF rfl (LessW.mk' ⟨AVle.of rfl, AVle.of rfl, AVle.of rfl, AVle.of rfl, trivial⟩ ⟨rfl, rfl, rfl, rfl, trivial⟩)
      · refine WH.yvs rfl (LJ.Y.idxRel enc_i64 s6.2.2.2.2 (1 : Int) tt_ok rfl rfl rfl rfl rfl (nIn_ok g17_5_1)) rfl rfl rfl rfl rfl ?_
        refine WH.fork ?_ (WH.fork ?_ ?_)
        · refine WH.yvs rfl (LJ.Y.loadRel enc_i64 s6.2.2.2.2 (0 : Int) 0 rfl rfl (fun _ => rfl) rfl (by kernel_rfl) rfl (by first | exact nIn_ok g17_2_1 | (have := nIn_ok g17_2_1; simpa only [List.length_set, List.length_map] using this))) rfl rfl rfl rfl rfl ?_
          refine WH.fork ?_ ?_
          · refine WH.yvs rfl (LJ.Y.loadRel enc_i64 s6.2.2.2.2 (1 : Int) 0 rfl rfl (fun _ => rfl) rfl (by kernel_rfl) rfl (by first | exact nIn_ok g17_5_1 | (have := nIn_ok g17_5_1; simpa only [List.length_set, List.length_map] using this))) rfl rfl rfl rfl rfl ?_
            refine WH.run 1 tt_ok rfl rfl rfl rfl trivial ?_
            refine WH.alloc 114 tt_ok rfl rfl rfl rfl rfl rfl ?_
            refine WH.eff 0 tt_ok et_ok rfl rfl rfl rfl trivial rfl rfl ?_
            exact WH.nilF rfl (LessW.mk' ⟨AVle.of rfl, AVle.of rfl, AVle.of rfl, AVle.of rfl, trivial⟩ ⟨rfl, rfl, rfl, rfl, trivial⟩)
          · refine WH.alloc 114 tt_ok rfl rfl rfl rfl rfl rfl ?_
            refine WH.yvs rfl (LJ.Y.loadRel enc_i64 s6.2.2.2.2 (1 : Int) 0 rfl rfl (fun _ => rfl) rfl (by kernel_rfl) rfl (by first | exact nIn_ok g17_5_1 | (have := nIn_ok g17_5_1; simpa only [List.length_set, List.length_map] using this))) rfl rfl rfl rfl rfl ?_
            refine WH.run 1 tt_ok rfl rfl rfl rfl trivial ?_
            refine WH.eff 0 tt_ok et_ok rfl rfl rfl rfl trivial rfl rfl ?_
            exact WH.nilF rfl (LessW.mk' ⟨AVle.of rfl, AVle.of rfl, AVle.of rfl, AVle.of rfl, trivial⟩ ⟨rfl, rfl, rfl, rfl, trivial⟩)
        · refine WH.yvs rfl (LJ.Y.loadRel enc_i64 s6.2.2.2.2 (1 : Int) 0 rfl rfl (fun _ => rfl) rfl (by kernel_rfl) rfl (by first | exact nIn_ok g17_5_1 | (have := nIn_ok g17_5_1; simpa only [List.length_set, List.length_map] using this))) rfl rfl rfl rfl rfl ?_
          refine WH.fork ?_ ?_
          · refine WH.yvs rfl (LJ.Y.loadRel enc_i64 s6.2.2.2.2 (0 : Int) 0 rfl rfl (fun _ => rfl) rfl (by kernel_rfl) rfl (by first | exact nIn_ok g17_2_1 | (have := nIn_ok g17_2_1; simpa only [List.length_set, List.length_map] using this))) rfl rfl rfl rfl rfl ?_
            refine WH.run 1 tt_ok rfl rfl rfl rfl trivial ?_
            refine WH.alloc 114 tt_ok rfl rfl rfl rfl rfl rfl ?_
            refine WH.eff 0 tt_ok et_ok rfl rfl rfl rfl trivial rfl rfl ?_
            exact WH.nilF rfl (LessW.mk' ⟨AVle.of rfl, AVle.of rfl, AVle.of rfl, AVle.of rfl, trivial⟩ ⟨rfl, rfl, rfl, rfl, trivial⟩)
          · refine WH.alloc 114 tt_ok rfl rfl rfl rfl rfl rfl ?_
            refine WH.yvs rfl (LJ.Y.loadRel enc_i64 s6.2.2.2.2 (0 : Int) 0 rfl rfl (fun _ => rfl) rfl (by kernel_rfl) rfl (by first | exact nIn_ok g17_2_1 | (have := nIn_ok g17_2_1; simpa only [List.length_set, List.length_map] using this))) rfl rfl rfl rfl rfl ?_
            refine WH.run 1 tt_ok rfl rfl rfl rfl trivial ?_
            refine WH.eff 0 tt_ok et_ok rfl rfl rfl rfl trivial rfl rfl ?_
            exact WH.nilF rfl (LessW.mk' ⟨AVle.of rfl, AVle.of rfl, AVle.of rfl, AVle.of rfl, trivial⟩ ⟨rfl, rfl, rfl, rfl, trivial⟩)
        · refine WH.alloc 114 tt_ok rfl rfl rfl rfl rfl rfl ?_
          refine WH.fork ?_ ?_
          · refine WH.yvs rfl (LJ.Y.loadRel enc_i64 s6.2.2.2.2 (0 : Int) 0 rfl rfl (fun _ => rfl) rfl (by kernel_rfl) rfl (by first | exact nIn_ok g17_2_1 | (have := nIn_ok g17_2_1; simpa only [List.length_set, List.length_map] using this))) rfl rfl rfl rfl rfl ?_
            refine WH.yvs rfl (LJ.Y.loadRel enc_i64 s6.2.2.2.2 (1 : Int) 0 rfl rfl (fun _ => rfl) rfl (by kernel_rfl) rfl (by first | exact nIn_ok g17_5_1 | (have := nIn_ok g17_5_1; simpa only [List.length_set, List.length_map] using this))) rfl rfl rfl rfl rfl ?_
            refine WH.run 1 tt_ok rfl rfl rfl rfl trivial ?_
            refine WH.eff 0 tt_ok et_ok rfl rfl rfl rfl trivial rfl rfl ?_
            exact WH.nilF rfl (LessW.mk' ⟨AVle.of rfl, AVle.of rfl, AVle.of rfl, AVle.of rfl, trivial⟩ ⟨rfl, rfl, rfl, rfl, trivial⟩)
          · refine WH.yvs rfl (LJ.Y.loadRel enc_i64 s6.2.2.2.2 (1 : Int) 0 rfl rfl (fun _ => rfl) rfl (by kernel_rfl) rfl (by first | exact nIn_ok g17_5_1 | (have := nIn_ok g17_5_1; simpa only [List.length_set, List.length_map] using this))) rfl rfl rfl rfl rfl ?_
            refine WH.yvs rfl (LJ.Y.loadRel enc_i64 s6.2.2.2.2 (0 : Int) 0 rfl rfl (fun _ => rfl) rfl (by kernel_rfl) rfl (by first | exact nIn_ok g17_2_1 | (have := nIn_ok g17_2_1; simpa only [List.length_set, List.length_map] using this))) rfl rfl rfl rfl rfl ?_
            refine WH.run 1 tt_ok rfl rfl rfl rfl trivial ?_
            refine WH.eff 0 tt_ok et_ok rfl rfl rfl rfl trivial rfl rfl ?_
            exact WH.nilF rfl (LessW.mk' ⟨AVle.of rfl, AVle.of rfl, AVle.of rfl, AVle.of rfl, trivial⟩ ⟨rfl, rfl, rfl, rfl, trivial⟩)
      · refine WH.alloc 114 tt_ok rfl rfl rfl rfl rfl rfl ?_
        refine WH.fork ?_ ?_
        · refine WH.yvs rfl (LJ.Y.loadRel enc_i64 s6.2.2.2.2 (0 : Int) 0 rfl rfl (fun _ => rfl) rfl (by kernel_rfl) rfl (by first | exact nIn_ok g17_2_1 | (have := nIn_ok g17_2_1; simpa only [List.length_set, List.length_map] using this))) rfl rfl rfl rfl rfl ?_
          refine WH.yvs rfl (LJ.Y.idxRel enc_i64 s6.2.2.2.2 (1 : Int) tt_ok rfl rfl rfl rfl rfl (nIn_ok g17_5_1)) rfl rfl rfl rfl rfl ?_
          refine WH.yvs rfl (LJ.Y.loadRel enc_i64 s6.2.2.2.2 (1 : Int) 0 rfl rfl (fun _ => rfl) rfl (by kernel_rfl) rfl (by first | exact nIn_ok g17_5_1 | (have := nIn_ok g17_5_1; simpa only [List.length_set, List.length_map] using this))) rfl rfl rfl rfl rfl ?_
          refine WH.run 1 tt_ok rfl rfl rfl rfl trivial ?_
          refine WH.eff 0 tt_ok et_ok rfl rfl rfl rfl trivial rfl rfl ?_
          exact WH.nilF rfl (LessW.mk' ⟨AVle.of rfl, AVle.of rfl, AVle.of rfl, AVle.of rfl, trivial⟩ ⟨rfl, rfl, rfl, rfl, trivial⟩)
        · refine WH.yvs rfl (LJ.Y.idxRel enc_i64 s6.2.2.2.2 (1 : Int) tt_ok rfl rfl rfl rfl rfl (nIn_ok g17_5_1)) rfl rfl rfl rfl rfl ?_
          refine WH.fork ?_ ?_
          · refine WH.yvs rfl (LJ.Y.loadRel enc_i64 s6.2.2.2.2 (0 : Int) 0 rfl rfl (fun _ => rfl) rfl (by kernel_rfl) rfl (by first | exact nIn_ok g17_2_1 | (have := nIn_ok g17_2_1; simpa only [List.length_set, List.length_map] using this))) rfl rfl rfl rfl rfl ?_
            refine WH.yvs rfl (LJ.Y.loadRel enc_i64 s6.2.2.2.2 (1 : Int) 0 rfl rfl (fun _ => rfl) rfl (by kernel_rfl) rfl (by first | exact nIn_ok g17_5_1 | (have := nIn_ok g17_5_1; simpa only [List.length_set, List.length_map] using this))) rfl rfl rfl rfl rfl ?_
            refine WH.run 1 tt_ok rfl rfl rfl rfl trivial ?_
            refine WH.eff 0 tt_ok et_ok rfl rfl rfl rfl trivial rfl rfl ?_
            exact WH.nilF rfl (LessW.mk' ⟨AVle.of rfl, AVle.of rfl, AVle.of rfl, AVle.of rfl, trivial⟩ ⟨rfl, rfl, rfl, rfl, trivial⟩)
          · refine WH.yvs rfl (LJ.Y.loadRel enc_i64 s6.2.2.2.2 (1 : Int) 0 rfl rfl (fun _ => rfl) rfl (by kernel_rfl) rfl (by first | exact nIn_ok g17_5_1 | (have := nIn_ok g17_5_1; simpa only [List.length_set, List.length_map] using this))) rfl rfl rfl rfl rfl ?_
            refine WH.yvs rfl (LJ.Y.loadRel enc_i64 s6.2.2.2.2 (0 : Int) 0 rfl rfl (fun _ => rfl) rfl (by kernel_rfl) rfl (by first | exact nIn_ok g17_2_1 | (have := nIn_ok g17_2_1; simpa only [List.length_set, List.length_map] using this))) rfl rfl rfl rfl rfl ?_
            refine WH.run 1 tt_ok rfl rfl rfl rfl trivial ?_
            refine WH.eff 0 tt_ok et_ok rfl rfl rfl rfl trivial rfl rfl ?_
            exact WH.nilF rfl (LessW.mk' ⟨AVle.of rfl, AVle.of rfl, AVle.of rfl, AVle.of rfl, trivial⟩ ⟨rfl, rfl, rfl, rfl, trivial⟩)
    · refine WH.yvs rfl (LJ.Y.idxRel enc_i64 s6.2.2.2.2 (1 : Int) tt_ok rfl rfl rfl rfl rfl (nIn_ok g17_5_1)) rfl rfl rfl rfl rfl ?_
      refine WH.fork ?_ (WH.fork ?_ ?_)
      · refine WH.yvs rfl (LJ.Y.idxRel enc_i64 s6.2.2.2.2 (0 : Int) tt_ok rfl rfl rfl rfl rfl (nIn_ok g17_2_1)) rfl rfl rfl rfl rfl ?_
        refine WH.fork ?_ (WH.fork ?_ ?_)
        · refine WH.yvs rfl (LJ.Y.loadRel enc_i64 s6.2.2.2.2 (0 : Int) 0 rfl rfl (fun _ => rfl) rfl (by kernel_rfl) rfl (by first | exact nIn_ok g17_2_1 | (have := nIn_ok g17_2_1; simpa only [List.length_set, List.length_map] using this))) rfl rfl rfl rfl rfl ?_
          refine WH.fork ?_ ?_
          · refine WH.yvs rfl (LJ.Y.loadRel enc_i64 s6.2.2.2.2 (1 : Int) 0 rfl rfl (fun _ => rfl) rfl (by kernel_rfl) rfl (by first | exact nIn_ok g17_5_1 | (have := nIn_ok g17_5_1; simpa only [List.length_set, List.length_map] using this))) rfl rfl rfl rfl rfl ?_
            refine WH.run 1 tt_ok rfl rfl rfl rfl trivial ?_
            refine WH.alloc 114 tt_ok rfl rfl rfl rfl rfl rfl ?_
            refine WH.eff 0 tt_ok et_ok rfl rfl rfl rfl trivial rfl rfl ?_
            exact WH.nilF rfl (LessW.mk' ⟨AVle.of rfl, AVle.of rfl, AVle.of rfl, AVle.of rfl, trivial⟩ ⟨rfl, rfl, rfl, rfl, trivial⟩)
          · refine WH.alloc 114 tt_ok rfl rfl rfl rfl rfl rfl ?_
            refine WH.yvs rfl (LJ.Y.loadRel enc_i64 s6.2.2.2.2 (1 : Int) 0 rfl rfl (fun _ => rfl) rfl (by kernel_rfl) rfl (by first | exact nIn_ok g17_5_1 | (have := nIn_ok g17_5_1; simpa only [List.length_set, List.length_map] using this))) rfl rfl rfl rfl rfl ?_
            refine WH.run 1 tt_ok rfl rfl rfl rfl trivial ?_
            refine WH.eff 0 tt_ok et_ok rfl rfl rfl rfl trivial rfl rfl ?_
            exact WH.nilF rfl (LessW.mk' ⟨AVle.of rfl, AVle.of rfl, AVle.of rfl, AVle.of rfl, trivial⟩ ⟨rfl, rfl, rfl, rfl, trivial⟩)
        · refine WH.yvs rfl (LJ.Y.loadRel enc_i64 s6.2.2.2.2 (1 : Int) 0 rfl rfl (fun _ => rfl) rfl (by kernel_rfl) rfl (by first | exact nIn_ok g17_5_1 | (have := nIn_ok g17_5_1; simpa only [List.length_set, List.length_map] using this))) rfl rfl rfl rfl rfl ?_
          refine WH.fork ?_ ?_
          · refine WH.yvs rfl (LJ.Y.loadRel enc_i64 s6.2.2.2.2 (0 : Int) 0 rfl rfl (fun _ => rfl) rfl (by kernel_rfl) rfl (by first | exact nIn_ok g17_2_1 | (have := nIn_ok g17_2_1; simpa only [List.length_set, List.length_map] using this))) rfl rfl rfl rfl rfl ?_
            refine WH.run 1 tt_ok rfl rfl rfl rfl trivial ?_
            refine WH.alloc 114 tt_ok rfl rfl rfl rfl rfl rfl ?_
            refine WH.eff 0 tt_ok et_ok rfl rfl rfl rfl trivial rfl rfl ?_
            exact WH.nilF rfl (LessW.mk' ⟨AVle.of rfl, AVle.of rfl, AVle.of rfl, AVle.of rfl, trivial⟩ ⟨rfl, rfl, rfl, rfl, trivial⟩)
          · refine WH.alloc 114 tt_ok rfl rfl rfl rfl rfl rfl ?_
            refine WH.yvs rfl (LJ.Y.loadRel enc_i64 s6.2.2.2.2 (0 : Int) 0 rfl rfl (fun _ => rfl) rfl (by kernel_rfl) rfl (by first | exact nIn_ok g17_2_1 | (have := nIn_ok g17_2_1; simpa only [List.length_set, List.length_map] using this))) rfl rfl rfl rfl rfl ?_
            refine WH.run 1 tt_ok rfl rfl rfl rfl trivial ?_
            refine WH.eff 0 tt_ok et_ok rfl rfl rfl rfl trivial rfl rfl ?_
            exact WH.nilF rfl (LessW.mk' ⟨AVle.of rfl, AVle.of rfl, AVle.of rfl, AVle.of rfl, trivial⟩ ⟨rfl, rfl, rfl, rfl, trivial⟩)
        · refine WH.alloc 114 tt_ok rfl rfl rfl rfl rfl rfl ?_
          refine WH.fork ?_ ?_
          · refine WH.yvs rfl (LJ.Y.loadRel enc_i64 s6.2.2.2.2 (0 : Int) 0 rfl rfl (fun _ => rfl) rfl (by kernel_rfl) rfl (by first | exact nIn_ok g17_2_1 | (have := nIn_ok g17_2_1; simpa only [List.length_set, List.length_map] using this))) rfl rfl rfl rfl rfl ?_
            refine WH.yvs rfl (LJ.Y.loadRel enc_i64 s6.2.2.2.2 (1 : Int) 0 rfl rfl (fun _ => rfl) rfl (by kernel_rfl) rfl (by first | exact nIn_ok g17_5_1 | (have := nIn_ok g17_5_1; simpa only [List.length_set, List.length_map] using this))) rfl rfl rfl rfl rfl ?_
            refine WH.run 1 tt_ok rfl rfl rfl rfl trivial ?_
            refine WH.eff 0 tt_ok et_ok rfl rfl rfl rfl trivial rfl rfl ?_
            exact WH.nilF rfl (LessW.mk' ⟨AVle.of rfl, AVle.of rfl, AVle.of rfl, AVle.of rfl, trivial⟩ ⟨rfl, rfl, rfl, rfl, trivial⟩)
          · refine WH.yvs rfl (LJ.Y.loadRel enc_i64 s6.2.2.2.2 (1 : Int) 0 rfl rfl (fun _ => rfl) rfl (by kernel_rfl) rfl (by first | exact nIn_ok g17_5_1 | (have := nIn_ok g17_5_1; simpa only [List.length_set, List.length_map] using this))) rfl rfl rfl rfl rfl ?_
            refine WH.yvs rfl (LJ.Y.loadRel enc_i64 s6.2.2.2.2 (0 : Int) 0 rfl rfl (fun _ => rfl) rfl (by kernel_rfl) rfl (by first | exact nIn_ok g17_2_1 | (have := nIn_ok g17_2_1; simpa only [List.length_set, List.length_map] using this))) rfl rfl rfl rfl rfl ?_
            refine WH.run 1 tt_ok rfl rfl rfl rfl trivial ?_
            refine WH.eff 0 tt_ok et_ok rfl rfl rfl rfl trivial rfl rfl ?_
            exact WH.nilF rfl (LessW.mk' ⟨AVle.of rfl, AVle.of rfl, AVle.of rfl, AVle.of rfl, trivial⟩ ⟨rfl, rfl, rfl, rfl, trivial⟩)
      · refine WH.yvs rfl (LJ.Y.loadRel enc_i64 s6.2.2.2.2 (1 : Int) 0 rfl rfl (fun _ => rfl) rfl (by kernel_rfl) rfl (by first | exact nIn_ok g17_5_1 | (have := nIn_ok g17_5_1; simpa only [List.length_set, List.length_map] using this))) rfl rfl rfl rfl rfl ?_
        refine WH.fork ?_ ?_
        · refine WH.yvs rfl (LJ.Y.idxRel enc_i64 s6.2.2.2.2 (0 : Int) tt_ok rfl rfl rfl rfl rfl (nIn_ok g17_2_1)) rfl rfl rfl rfl rfl ?_
          refine WH.fork ?_ ?_
          · refine WH.yvs rfl (LJ.Y.loadRel enc_i64 s6.2.2.2.2 (0 : Int) 0 rfl rfl (fun _ => rfl) rfl (by kernel_rfl) rfl (by first | exact nIn_ok g17_2_1 | (have := nIn_ok g17_2_1; simpa only [List.length_set, List.length_map] using this))) rfl rfl rfl rfl rfl ?_
            refine WH.run 1 tt_ok rfl rfl rfl rfl trivial ?_
            refine WH.alloc 114 tt_ok rfl rfl rfl rfl rfl rfl ?_
            refine WH.eff 0 tt_ok et_ok rfl rfl rfl rfl trivial rfl rfl ?_
            exact WH.nilF rfl (LessW.mk' ⟨AVle.of rfl, AVle.of rfl, AVle.of rfl, AVle.of rfl, trivial⟩ ⟨rfl, rfl, rfl, rfl, trivial⟩)
          · refine WH.alloc 114 tt_ok rfl rfl rfl rfl rfl rfl ?_
            refine WH.yvs rfl (LJ.Y.loadRel enc_i64 s6.2.2.2.2 (0 : Int) 0 rfl rfl (fun _ => rfl) rfl (by kernel_rfl) rfl (by first | exact nIn_ok g17_2_1 | (have := nIn_ok g17_2_1; simpa only [List.length_set, List.length_map] using this))) rfl rfl rfl rfl rfl ?_
            refine WH.run 1 tt_ok rfl rfl rfl rfl trivial ?_
            refine WH.eff 0 tt_ok et_ok rfl rfl rfl rfl trivial rfl rfl ?_
            exact WH.nilF rfl (LessW.mk' ⟨AVle.of rfl, AVle.of rfl, AVle.of rfl, AVle.of rfl, trivial⟩ ⟨rfl, rfl, rfl, rfl, trivial⟩)
        · refine WH.alloc 114 tt_ok rfl rfl rfl rfl rfl rfl ?_
          refine WH.yvs rfl (LJ.Y.idxRel enc_i64 s6.2.2.2.2 (0 : Int) tt_ok rfl rfl rfl rfl rfl (nIn_ok g17_2_1)) rfl rfl rfl rfl rfl ?_
          refine WH.yvs rfl (LJ.Y.loadRel enc_i64 s6.2.2.2.2 (0 : Int) 0 rfl rfl (fun _ => rfl) rfl (by kernel_rfl) rfl (by first | exact nIn_ok g17_2_1 | (have := nIn_ok g17_2_1; simpa only [List.length_set, List.length_map] using this))) rfl rfl rfl rfl rfl ?_
          refine WH.run 1 tt_ok rfl rfl rfl rfl trivial ?_
          refine WH.eff 0 tt_ok et_ok rfl rfl rfl rfl trivial rfl rfl ?_
          exact WH.nilF rfl (LessW.mk' ⟨AVle.of rfl, AVle.of rfl, AVle.of rfl, AVle.of rfl, trivial⟩ ⟨rfl, rfl, rfl, rfl, trivial⟩)
      · refine WH.alloc 114 tt_ok rfl rfl rfl rfl rfl rfl ?_
        refine WH.fork ?_ ?_
        · refine WH.yvs rfl (LJ.Y.idxRel enc_i64 s6.2.2.2.2 (0 : Int) tt_ok rfl rfl rfl rfl rfl (nIn_ok g17_2_1)) rfl rfl rfl rfl rfl ?_
          refine WH.fork ?_ ?_
          · refine WH.yvs rfl (LJ.Y.loadRel enc_i64 s6.2.2.2.2 (0 : Int) 0 rfl rfl (fun _ => rfl) rfl (by kernel_rfl) rfl (by first | exact nIn_ok g17_2_1 | (have := nIn_ok g17_2_1; simpa only [List.length_set, List.length_map] using this))) rfl rfl rfl rfl rfl ?_
            refine WH.yvs rfl (LJ.Y.loadRel enc_i64 s6.2.2.2.2 (1 : Int) 0 rfl rfl (fun _ => rfl) rfl (by kernel_rfl) rfl (by first | exact nIn_ok g17_5_1 | (have := nIn_ok g17_5_1; simpa only [List.length_set, List.length_map] using this))) rfl rfl rfl rfl rfl ?_
            refine WH.run 1 tt_ok rfl rfl rfl rfl trivial ?_
            refine WH.eff 0 tt_ok et_ok rfl rfl rfl rfl trivial rfl rfl ?_
            exact WH.nilF rfl (LessW.mk' ⟨AVle.of rfl, AVle.of rfl, AVle.of rfl, AVle.of rfl, trivial⟩ ⟨rfl, rfl, rfl, rfl, trivial⟩)
          · refine WH.yvs rfl (LJ.Y.loadRel enc_i64 s6.2.2.2.2 (1 : Int) 0 rfl rfl (fun _ => rfl) rfl (by kernel_rfl) rfl (by first | exact nIn_ok g17_5_1 | (have := nIn_ok g17_5_1; simpa only [List.length_set, List.length_map] using this))) rfl rfl rfl rfl rfl ?_
            refine WH.yvs rfl (LJ.Y.loadRel enc_i64 s6.2.2.2.2 (0 : Int) 0 rfl rfl (fun _ => rfl) rfl (by kernel_rfl) rfl (by first | exact nIn_ok g17_2_1 | (have := nIn_ok g17_2_1; simpa only [List.length_set, List.length_map] using this))) rfl rfl rfl rfl rfl ?_
            refine WH.run 1 tt_ok rfl rfl rfl rfl trivial ?_
            refine WH.eff 0 tt_ok et_ok rfl rfl rfl rfl trivial rfl rfl ?_
            exact WH.nilF rfl (LessW.mk' ⟨AVle.of rfl, AVle.of rfl, AVle.of rfl, AVle.of rfl, trivial⟩ ⟨rfl, rfl, rfl, rfl, trivial⟩)
        · refine WH.yvs rfl (LJ.Y.loadRel enc_i64 s6.2.2.2.2 (1 : Int) 0 rfl rfl (fun _ => rfl) rfl (by kernel_rfl) rfl (by first | exact nIn_ok g17_5_1 | (have := nIn_ok g17_5_1; simpa only [List.length_set, List.length_map] using this))) rfl rfl rfl rfl rfl ?_
          refine WH.yvs rfl (LJ.Y.idxRel enc_i64 s6.2.2.2.2 (0 : Int) tt_ok rfl rfl rfl rfl rfl (nIn_ok g17_2_1)) rfl rfl rfl rfl rfl ?_
          refine WH.yvs rfl (LJ.Y.loadRel enc_i64 s6.2.2.2.2 (0 : Int) 0 rfl rfl (fun _ => rfl) rfl (by kernel_rfl) rfl (by first | exact nIn_ok g17_2_1 | (have := nIn_ok g17_2_1; simpa only [List.length_set, List.length_map] using this))) rfl rfl rfl rfl rfl ?_
          refine WH.run 1 tt_ok rfl rfl rfl rfl trivial ?_
          refine WH.eff 0 tt_ok et_ok rfl rfl rfl rfl trivial rfl rfl ?_
          exact WH.nilF rfl (LessW.mk' ⟨AVle.of rfl, AVle.of rfl, AVle.of rfl, AVle.of rfl, trivial⟩ ⟨rfl, rfl, rfl, rfl, trivial⟩)
    · refine WH.alloc 114 tt_ok rfl rfl rfl rfl rfl rfl ?_
      refine WH.fork ?_ ?_
      · refine WH.yvs rfl (LJ.Y.idxRel enc_i64 s6.2.2.2.2 (0 : Int) tt_ok rfl rfl rfl rfl rfl (nIn_ok g17_2_1)) rfl rfl rfl rfl rfl ?_
        refine WH.fork ?_ ?_
        · refine WH.yvs rfl (LJ.Y.loadRel enc_i64 s6.2.2.2.2 (0 : Int) 0 rfl rfl (fun _ => rfl) rfl (by kernel_rfl) rfl (by first | exact nIn_ok g17_2_1 | (have := nIn_ok g17_2_1; simpa only [List.length_set, List.length_map] using this))) rfl rfl rfl rfl rfl ?_
          refine WH.yvs rfl (LJ.Y.idxRel enc_i64 s6.2.2.2.2 (1 : Int) tt_ok rfl rfl rfl rfl rfl (nIn_ok g17_5_1)) rfl rfl rfl rfl rfl ?_
          refine WH.yvs rfl (LJ.Y.loadRel enc_i64 s6.2.2.2.2 (1 : Int) 0 rfl rfl (fun _ => rfl) rfl (by kernel_rfl) rfl (by first | exact nIn_ok g17_5_1 | (have := nIn_ok g17_5_1; simpa only [List.length_set, List.length_map] using this))) rfl rfl rfl rfl rfl ?_
          refine WH.run 1 tt_ok rfl rfl rfl rfl trivial ?_
          refine WH.eff 0 tt_ok et_ok rfl rfl rfl rfl trivial rfl rfl ?_
          exact WH.nilF rfl (LessW.mk' ⟨AVle.of rfl, AVle.of rfl, AVle.of rfl, AVle.of rfl, trivial⟩ ⟨rfl, rfl, rfl, rfl, trivial⟩)
        · refine WH.yvs rfl (LJ.Y.idxRel enc_i64 s6.2.2.2.2 (1 : Int) tt_ok rfl rfl rfl rfl rfl (nIn_ok g17_5_1)) rfl rfl rfl rfl rfl ?_
          refine WH.fork ?_ ?_
          · refine WH.yvs rfl (LJ.Y.loadRel enc_i64 s6.2.2.2.2 (0 : Int) 0 rfl rfl (fun _ => rfl) rfl (by kernel_rfl) rfl (by first | exact nIn_ok g17_2_1 | (have := nIn_ok g17_2_1; simpa only [List.length_set, List.length_map] using this))) rfl rfl rfl rfl rfl ?_
            refine WH.yvs rfl (LJ.Y.loadRel enc_i64 s6.2.2.2.2 (1 : Int) 0 rfl rfl (fun _ => rfl) rfl (by kernel_rfl) rfl (by first | exact nIn_ok g17_5_1 | (have := nIn_ok g17_5_1; simpa only [List.length_set, List.length_map] using this))) rfl rfl rfl rfl rfl ?_
            refine WH.run 1 tt_ok rfl rfl rfl rfl trivial ?_
            refine WH.eff 0 tt_ok et_ok rfl rfl rfl rfl trivial rfl rfl ?_
            exact WH.nilF rfl (LessW.mk' ⟨AVle.of rfl, AVle.of rfl, AVle.of rfl, AVle.of rfl, trivial⟩ ⟨rfl, rfl, rfl, rfl, trivial⟩)
          · refine WH.yvs rfl (LJ.Y.loadRel enc_i64 s6.2.2.2.2 (1 : Int) 0 rfl rfl (fun _ => rfl) rfl (by kernel_rfl) rfl (by first | exact nIn_ok g17_5_1 | (have := nIn_ok g17_5_1; simpa only [List.length_set, List.length_map] using this))) rfl rfl rfl rfl rfl ?_
            refine WH.yvs rfl (LJ.Y.loadRel enc_i64 s6.2.2.2.2 (0 : Int) 0 rfl rfl (fun _ => rfl) rfl (by kernel_rfl) rfl (by first | exact nIn_ok g17_2_1 | (have := nIn_ok g17_2_1; simpa only [List.length_set, List.length_map] using this))) rfl rfl rfl rfl rfl ?_
            refine WH.run 1 tt_ok rfl rfl rfl rfl trivial ?_
            refine WH.eff 0 tt_ok et_ok rfl rfl rfl rfl trivial rfl rfl ?_
            exact WH.nilF rfl (LessW.mk' ⟨AVle.of rfl, AVle.of rfl, AVle.of rfl, AVle.of rfl, trivial⟩ ⟨rfl, rfl, rfl, rfl, trivial⟩)
      · refine WH.yvs rfl (LJ.Y.idxRel enc_i64 s6.2.2.2.2 (1 : Int) tt_ok rfl rfl rfl rfl rfl (nIn_ok g17_5_1)) rfl rfl rfl rfl rfl ?_
        refine WH.fork ?_ ?_
        · refine WH.yvs rfl (LJ.Y.idxRel enc_i64 s6.2.2.2.2 (0 : Int) tt_ok rfl rfl rfl rfl rfl (nIn_ok g17_2_1)) rfl rfl rfl rfl rfl ?_
          refine WH.fork ?_ ?_
          · refine WH.yvs rfl (LJ.Y.loadRel enc_i64 s6.2.2.2.2 (0 : Int) 0 rfl rfl (fun _ => rfl) rfl (by kernel_rfl) rfl (by first | exact nIn_ok g17_2_1 | (have := nIn_ok g17_2_1; simpa only [List.length_set, List.length_map] using this))) rfl rfl rfl rfl rfl ?_
            refine WH.yvs rfl (LJ.Y.loadRel enc_i64 s6.2.2.2.2 (1 : Int) 0 rfl rfl (fun _ => rfl) rfl (by kernel_rfl) rfl (by first | exact nIn_ok g17_5_1 | (have := nIn_ok g17_5_1; simpa only [List.length_set, List.length_map] using this))) rfl rfl rfl rfl rfl ?_
            refine WH.run 1 tt_ok rfl rfl rfl rfl trivial ?_
            refine WH.eff 0 tt_ok et_ok rfl rfl rfl rfl trivial rfl rfl ?_
            exact WH.nilF rfl (LessW.mk' ⟨AVle.of rfl, AVle.of rfl, AVle.of rfl, AVle.of rfl, trivial⟩ ⟨rfl, rfl, rfl, rfl, trivial⟩)
          · refine WH.yvs rfl (LJ.Y.loadRel enc_i64 s6.2.2.2.2 (1 : Int) 0 rfl rfl (fun _ => rfl) rfl (by kernel_rfl) rfl (by first | exact nIn_ok g17_5_1 | (have := nIn_ok g17_5_1; simpa only [List.length_set, List.length_map] using this))) rfl rfl rfl rfl rfl ?_
            refine WH.yvs rfl (LJ.Y.loadRel enc_i64 s6.2.2.2.2 (0 : Int) 0 rfl rfl (fun _ => rfl) rfl (by kernel_rfl) rfl (by first | exact nIn_ok g17_2_1 | (have := nIn_ok g17_2_1; simpa only [List.length_set, List.length_map] using this))) rfl rfl rfl rfl rfl ?_
            refine WH.run 1 tt_ok rfl rfl rfl rfl trivial ?_
            refine WH.eff 0 tt_ok et_ok rfl rfl rfl rfl trivial rfl rfl ?_
            exact WH.nilF rfl (LessW.mk' ⟨AVle.of rfl, AVle.of rfl, AVle.of rfl, AVle.of rfl, trivial⟩ ⟨rfl, rfl, rfl, rfl, trivial⟩)
        · refine WH.yvs rfl (LJ.Y.loadRel enc_i64 s6.2.2.2.2 (1 : Int) 0 rfl rfl (fun _ => rfl) rfl (by kernel_rfl) rfl (by first | exact nIn_ok g17_5_1 | (have := nIn_ok g17_5_1; simpa only [List.length_set, List.length_map] using this))) rfl rfl rfl rfl rfl ?_
          refine WH.yvs rfl (LJ.Y.idxRel enc_i64 s6.2.2.2.2 (0 : Int) tt_ok rfl rfl rfl rfl rfl (nIn_ok g17_2_1)) rfl rfl rfl rfl rfl ?_
          refine WH.yvs rfl (LJ.Y.loadRel enc_i64 s6.2.2.2.2 (0 : Int) 0 rfl rfl (fun _ => rfl) rfl (by kernel_rfl) rfl (by first | exact nIn_ok g17_2_1 | (have := nIn_ok g17_2_1; simpa only [List.length_set, List.length_map] using this))) rfl rfl rfl rfl rfl ?_
          refine WH.run 1 tt_ok rfl rfl rfl rfl trivial ?_
          refine WH.eff 0 tt_ok et_ok rfl rfl rfl rfl trivial rfl rfl ?_
          exact WH.nilF rfl (LessW.mk' ⟨AVle.of rfl, AVle.of rfl, AVle.of rfl, AVle.of rfl, trivial⟩ ⟨rfl, rfl, rfl, rfl, trivial⟩)
  · refine QT.n ?_
    refine WC.seq ?_
    refine WC.seq ?_
    refine WC.region ?_
    refine WL.run 1 tt_ok sg0 rfl rfl trivial ?_
    obtain ⟨x17, hx17, H⟩ := of_bind H
    refine WL.call [] (ref07_Check_0 _ hx17) ref07_Check_f rfl rfl trivial rfl rfl rfl ?_
    refine WL.run 1 tt_ok sg0 rfl rfl trivial ?_
    refine WL.nil ?_
    refine QT.n ?_
    refine WC.seq ?_
    refine WC.region ?_
    refine WL.run 2 tt_ok sg0 rfl rfl trivial ?_
    refine WL.nil ?_
    refine QT.n ?_
    refine WC.cond rfl (fun h18 => ?_) (fun h18 => ?_)
    · replace H := of_t H h18
      refine WC.seq ?_
      refine WC.heldP (.one 0 true (.one 1 true (.one 2 true (.one 3 false (.one 4 false (.one 5 true .done)))))) [102, 103, 106, 114] [106, 114] rfl (by kernel_rfl) rfl (by kernel_rfl) rfl rfl (fun _ h => h) rfl rfl rfl (fun _ _ _ h => h) fun FK NK wK K => ?_
      refine WH.run 3 tt_ok rfl rfl rfl rfl trivial ?_
      refine WH.eff 0 tt_ok et_ok rfl rfl rfl rfl trivial rfl rfl ?_
      refine WH.eff 0 tt_ok et_ok rfl rfl rfl rfl trivial rfl rfl ?_
      refine WH.run 1 tt_ok rfl rfl rfl rfl trivial ?_
      refine WH.nil rfl ?_
      refine QT.n ?_
      refine WC.ret ?_
      refine QT.r ?_
      cases H
      exact Ends.autoC tt_ok rfl rfl rfl trivial
    replace H := of_f H h18
    refine WC.skip ?_
    refine QT.n ?_
    refine WC.seq ?_
    refine WC.heldP (.one 0 true (.one 1 true (.one 2 false (.one 3 false (.one 4 true .done))))) [102, 103, 106, 114] [106, 114] rfl (by kernel_rfl) rfl (by kernel_rfl) rfl rfl (fun _ h => h) rfl rfl rfl (fun _ _ _ h => h) fun FK NK wK K => ?_
    refine WH.run 2 tt_ok rfl rfl rfl rfl trivial ?_
    refine WH.eff 0 tt_ok et_ok rfl rfl rfl rfl trivial rfl rfl ?_
    refine WH.eff 0 tt_ok et_ok rfl rfl rfl rfl trivial rfl rfl ?_
    refine WH.run 1 tt_ok rfl rfl rfl rfl trivial ?_
    refine WH.nil rfl ?_
    refine QT.n ?_
    refine WC.ret ?_
    cases H
    exact Ends.autoC tt_ok rfl rfl rfl trivial
theorem ref07_Read_f : hasFunc Tryd.prog 34 Tryd.f34 := ⟨Tryd.func34, rfl, by kernel_rfl⟩

/-! ### logjam/logjamref07.Get -/
theorem ref07_Get_0 (a0 : ByteArray) {r : T_api_Ins × Int × Int} (H : ref07_Get a0 = some r) : LJ.Spec Tryd.prog 13 [.d (.str a0)] [] (.tup [.d (.agg [.int .i64 r.1.Op, .int .i64 r.1.A, .int .i64 r.1.B]), .d (.int .i64 r.2.1), .d (.int .i64 r.2.2)]) [] := by
  refine LJ.Spec.code Tryd.func13 rfl 22 rfl rfl [] rfl fun w0 F0 S0 B0 => ?_
  unfold ref07_Get at H
  refine WC.seq ?_
  refine WC.region ?_
  refine WL.alloc 102 tt_ok rfl rfl rfl ?_
  refine WL.run 2 tt_ok sg0 rfl rfl trivial ?_
  refine WL.nil ?_
  refine QT.n ?_
  refine WC.seq ?_
  refine WC.region ?_
  refine WL.run 2 tt_ok sg0 rfl rfl trivial ?_
  obtain ⟨x1, hx1, H⟩ := of_bind H
  refine WL.call [] (ref07_Read_0 _ hx1) ref07_Read_f rfl rfl trivial rfl rfl rfl ?_
  refine WL.run 4 tt_ok sg0 rfl rfl trivial ?_
  refine WL.alloc 105 tt_ok rfl rfl rfl ?_
  refine WL.alloc 106 tt_ok rfl rfl rfl ?_
  refine WL.eff 0 tt_ok et_ok eg0 rfl rfl rfl trivial ?_
  refine WL.eff 0 tt_ok et_ok eg0 rfl rfl rfl trivial ?_
  refine WL.run 1 tt_ok sg0 rfl rfl trivial ?_
  refine WL.nil ?_
  refine QT.n ?_
  refine WC.seq ?_
  refine WC.seq ?_
  refine WC.region ?_
  refine WL.run 2 tt_ok sg0 rfl rfl trivial ?_
  refine WL.nil ?_
  refine QT.n ?_
  refine WC.cond rfl (fun h2 => ?_) (fun h2 => ?_)
  · replace H := of_t H h2
    refine WC.seq ?_
    refine WC.region ?_
    refine WL.run 2 tt_ok sg0 rfl rfl trivial ?_
    refine WL.eff 0 tt_ok et_ok eg0 rfl rfl rfl trivial ?_
    refine WL.run 2 tt_ok sg0 rfl rfl trivial ?_
    refine WL.nil ?_
    refine QT.n ?_
    refine WC.ret ?_
    refine QT.r ?_
    cases H
    exact Ends.autoC tt_ok rfl rfl rfl trivial
  replace H := of_f H h2
  refine WC.skip ?_
  refine QT.n ?_
  refine WC.seq ?_
  refine WC.heldP (.one 0 true (.one 1 true (.one 2 true (.one 3 false (.one 4 true (.one 5 true .done)))))) [102, 105, 106] [105, 106] rfl (by kernel_rfl) rfl (by kernel_rfl) rfl rfl (fun _ h => h) rfl rfl rfl (fun _ _ _ h => h) fun FK NK wK K => ?_
  refine WH.run 3 tt_ok rfl rfl rfl rfl trivial ?_
  refine WH.eff 0 tt_ok et_ok rfl rfl rfl rfl trivial rfl rfl ?_
  refine WH.run 2 tt_ok rfl rfl rfl rfl trivial ?_
  refine WH.nil rfl ?_
  refine QT.n ?_
  refine WC.ret ?_
  cases H
  exact Ends.autoC tt_ok rfl rfl rfl trivial
theorem ref07_Get_f : hasFunc Tryd.prog 13 Tryd.f13 := ⟨Tryd.func13, rfl, by kernel_rfl⟩

/-! ### logjam/logjamlaw07.InsGets -/
theorem law07_InsGets_0 (a0 : ByteArray) {r : Bool} (H : law07_InsGets a0 = some r) : LJ.Spec Tryd.prog 4 [.d (.str a0)] [] (.d (.bool r)) [] := by
  refine LJ.Spec.code Tryd.func4 rfl 37 rfl rfl [] rfl fun w0 F0 S0 B0 => ?_
  unfold law07_InsGets at H
  refine WC.seq ?_
  refine WC.region ?_
  refine WL.run 1 tt_ok sg0 rfl rfl trivial ?_
  refine WL.nil ?_
  refine QT.n ?_
  refine WC.seq ?_
  refine WC.region ?_
  refine WL.run 1 tt_ok sg0 rfl rfl trivial ?_
  obtain ⟨x1, hx1, H⟩ := of_bind H
  refine WL.call [] (ins_Get_0 _ hx1) ins_Get_f rfl rfl trivial rfl rfl rfl ?_
  refine WL.run 4 tt_ok sg0 rfl rfl trivial ?_
  refine WL.alloc 103 tt_ok rfl rfl rfl ?_
  refine WL.eff 0 tt_ok et_ok eg0 rfl rfl rfl trivial ?_
  refine WL.run 2 tt_ok sg0 rfl rfl trivial ?_
  refine WL.nil ?_
  refine QT.n ?_
  refine WC.seq ?_
  refine WC.region ?_
  refine WL.run 1 tt_ok sg0 rfl rfl trivial ?_
  obtain ⟨x2, hx2, H⟩ := of_bind H
  refine WL.call [] (ref07_Get_0 _ hx2) ref07_Get_f rfl rfl trivial rfl rfl rfl ?_
  refine WL.run 4 tt_ok sg0 rfl rfl trivial ?_
  refine WL.alloc 106 tt_ok rfl rfl rfl ?_
  refine WL.eff 0 tt_ok et_ok eg0 rfl rfl rfl trivial ?_
  refine WL.run 2 tt_ok sg0 rfl rfl trivial ?_
  refine WL.nil ?_
  refine QT.n ?_
  refine WC.seq ?_
  refine WC.region ?_
  refine WL.run 2 tt_ok sg0 rfl rfl trivial ?_
  refine WL.yv (LJ.Y.structEq .eql (.inl rfl) rfl rfl rfl (by kernel_rfl) rfl) rfl rfl rfl ?_
  refine WL.run 1 tt_ok sg0 rfl rfl trivial ?_
  refine WL.sect 3 3 true tt_ok sg0 rfl rfl (fun _ => trivial) ?_
  refine WL.run 2 tt_ok sg0 rfl rfl ⟨by first | exact id | exact fun h => by rw [h]; rfl | simp_all, trivial⟩ ?_
  refine WL.sect 3 8 true tt_ok sg0 rfl rfl (fun _ => trivial) ?_
  refine WL.run 2 tt_ok sg0 rfl rfl ⟨by first | exact id | exact fun h => by rw [h]; rfl | simp_all, trivial⟩ ?_
  obtain ⟨x3, hx3, H⟩ := of_bind H
  refine WL.sect 1 13 true tt_ok [PSig.at' law07_lives_f (((((iEq x1.1.Op x2.1.Op) && ((iEq x1.1.A x2.1.A) && ((iEq x1.1.B x2.1.B) && true))) && (iEq x1.2.1 x2.2.1)) && (iEq x1.2.2 x2.2.2)) = true) rfl (fun hb => law07_lives_0  (of_t hx3 hb))] rfl rfl (fun hb => ⟨⟨hb, rfl⟩, trivial⟩) ?_
  refine WL.run 2 tt_ok sg0 rfl rfl ⟨by first | exact id | exact fun h => by rw [h]; rfl | simp_all, trivial⟩ ?_
  refine WL.nil ?_
  refine QT.n ?_
  refine WC.ret ?_
  cases H
  exact Ends.auto rfl rfl rfl trivial
theorem law07_InsGets_f : hasFunc Tryd.prog 4 Tryd.f4 := ⟨Tryd.func4, rfl, by kernel_rfl⟩

/-! ### logjam/logjamlaw07.InsBack -/
theorem law07_InsBack_0 (a0 : T_api_Ins) (a1 : ByteArray) {r : Bool} (H : law07_InsBack a0 a1 = some r) : LJ.Spec Tryd.prog 5 [.d (.agg [.int .i64 a0.Op, .int .i64 a0.A, .int .i64 a0.B]), .d (.str a1)] [] (.d (.bool r)) [] := by
  refine LJ.Spec.code Tryd.func5 rfl 47 rfl rfl [] rfl fun w0 F0 S0 B0 => ?_
  unfold law07_InsBack at H
  refine WC.seq ?_
  refine WC.region ?_
  refine WL.eff 102 tt_ok et_ok eg0 rfl rfl rfl trivial ?_
  refine WL.run 1 tt_ok sg0 rfl rfl trivial ?_
  refine WL.nil ?_
  refine QT.n ?_
  refine WC.seq ?_
  refine WC.seq ?_
  refine WC.region ?_
  refine WL.run 1 tt_ok sg0 rfl rfl trivial ?_
  obtain ⟨x1, hx1, H⟩ := of_bind H
  refine WL.call [] (ref07_Check_0 _ hx1) ref07_Check_f rfl rfl trivial rfl rfl rfl ?_
  refine WL.run 1 tt_ok sg0 rfl rfl trivial ?_
  refine WL.nil ?_
  refine QT.n ?_
  refine WC.cond rfl (fun h2 => ?_) (fun h2 => ?_)
  · replace H := of_t H h2
    refine WC.seq ?_
    refine WC.region ?_
    obtain ⟨x3, hx3, H⟩ := of_bind H
    refine WL.call [] (law07_lives_0 hx3) law07_lives_f rfl rfl trivial rfl rfl rfl ?_
    refine WL.run 1 tt_ok sg0 rfl rfl trivial ?_
    refine WL.nil ?_
    refine QT.n ?_
    refine WC.ret ?_
    refine QT.r ?_
    cases H
    exact Ends.auto rfl rfl rfl trivial
  replace H := of_f H h2
  refine WC.skip ?_
  refine QT.n ?_
  refine WC.seq ?_
  refine WC.region ?_
  refine WL.run 1 tt_ok sg0 rfl rfl trivial ?_
  obtain ⟨x4, hx4, H⟩ := of_bind H
  refine WL.call [] (ins_Put_0 _ hx4) ins_Put_f rfl rfl trivial rfl rfl rfl ?_
  refine WL.run 5 tt_ok sg0 rfl rfl trivial ?_
  refine WL.nil ?_
  refine QT.n ?_
  refine WC.seq ?_
  refine WC.region ?_
  obtain ⟨g5, H⟩ := of_need H
  refine WL.run 3 tt_ok sg0 rfl rfl ⟨(nStr_ok g5), trivial⟩ ?_
  obtain ⟨x6, hx6, H⟩ := of_bind H
  refine WL.call [] (ins_Get_0 _ hx6) ins_Get_f rfl rfl trivial rfl rfl rfl ?_
  refine WL.run 4 tt_ok sg0 rfl rfl trivial ?_
  refine WL.alloc 107 tt_ok rfl rfl rfl ?_
  refine WL.eff 0 tt_ok et_ok eg0 rfl rfl rfl trivial ?_
  refine WL.run 2 tt_ok sg0 rfl rfl trivial ?_
  refine WL.nil ?_
  refine QT.n ?_
  refine WC.seq ?_
  refine WC.region ?_
  refine WL.run 3 tt_ok sg0 rfl rfl trivial ?_
  refine WL.sect 2 2 true tt_ok sg0 rfl rfl (fun _ => trivial) ?_
  refine WL.run 2 tt_ok sg0 rfl rfl ⟨by first | exact id | exact fun h => by rw [h]; rfl | simp_all, trivial⟩ ?_
  refine WL.split (g := 33) rfl (fun h7 => ?_) (fun h7 => ?_)
  · replace H := of_t H h7
    refine WL.grun 2 6 true 33 tt_ok sg0 rfl rfl rfl rfl trivial ?_
    refine WL.gyv (LJ.Y.structEq .eql (.inl rfl) rfl rfl rfl (by kernel_rfl) rfl) rfl rfl rfl rfl rfl rfl ?_
    refine WL.pickT rfl rfl rfl rfl rfl rfl ?_
    refine WL.run 1 tt_ok sg0 rfl rfl trivial ?_
    refine WL.sect 4 11 true tt_ok sg0 rfl rfl (fun _ => trivial) ?_
    refine WL.run 2 tt_ok sg0 rfl rfl ⟨by first | exact id | exact fun h => by rw [h]; rfl | simp_all, trivial⟩ ?_
    obtain ⟨x8, hx8, H⟩ := of_bind H
    refine WL.sect 1 17 true tt_ok [PSig.at' law07_lives_f ((((iEq x6.1.Op a0.Op) && ((iEq x6.1.A a0.A) && ((iEq x6.1.B a0.B) && true))) && (iEq x6.2.1 (x4.1.size : Int))) = true) rfl (fun hb => law07_lives_0  (of_t hx8 hb))] rfl rfl (fun hb => ⟨⟨hb, rfl⟩, trivial⟩) ?_
    refine WL.run 2 tt_ok sg0 rfl rfl ⟨by first | exact id | exact fun h => by rw [h]; rfl | simp_all, trivial⟩ ?_
    refine WL.nil ?_
    refine QT.n ?_
    refine WC.ret ?_
    cases H
    exact Ends.auto rfl rfl rfl trivial
  · replace H := of_f H h7
    refine WL.gskips 3 6 true 33 rfl rfl rfl rfl ?_
    refine WL.pickF rfl rfl rfl rfl rfl rfl ?_
    refine WL.run 1 tt_ok sg0 rfl rfl trivial ?_
    refine WL.gskips 4 11 true 38 rfl rfl rfl rfl ?_
    refine WL.pickF rfl rfl rfl rfl rfl rfl ?_
    refine WL.run 1 tt_ok sg0 rfl rfl trivial ?_
    refine WL.gskips 1 17 true 44 rfl rfl rfl rfl ?_
    refine WL.pickF rfl rfl rfl rfl rfl rfl ?_
    refine WL.run 1 tt_ok sg0 rfl rfl trivial ?_
    refine WL.nil ?_
    refine QT.n ?_
    refine WC.ret ?_
    cases H
    exact Ends.auto rfl rfl rfl trivial
theorem law07_InsBack_f : hasFunc Tryd.prog 5 Tryd.f5 := ⟨Tryd.func5, rfl, by kernel_rfl⟩

/-! ### logjam/logjamlaw07.InsOnce -/
theorem law07_InsOnce_0 (a0 : ByteArray) {r : Bool} (H : law07_InsOnce a0 = some r) : LJ.Spec Tryd.prog 6 [.d (.str a0)] [] (.d (.bool r)) [] := by
  refine LJ.Spec.code Tryd.func6 rfl 53 rfl rfl [] rfl fun w0 F0 S0 B0 => ?_
  unfold law07_InsOnce at H
  refine WC.seq ?_
  refine WC.region ?_
  refine WL.run 1 tt_ok sg0 rfl rfl trivial ?_
  refine WL.nil ?_
  refine QT.n ?_
  refine WC.seq ?_
  refine WC.region ?_
  refine WL.run 1 tt_ok sg0 rfl rfl trivial ?_
  obtain ⟨x1, hx1, H⟩ := of_bind H
  refine WL.call [] (ins_Get_0 _ hx1) ins_Get_f rfl rfl trivial rfl rfl rfl ?_
  refine WL.run 4 tt_ok sg0 rfl rfl trivial ?_
  refine WL.alloc 103 tt_ok rfl rfl rfl ?_
  refine WL.eff 0 tt_ok et_ok eg0 rfl rfl rfl trivial ?_
  refine WL.run 2 tt_ok sg0 rfl rfl trivial ?_
  refine WL.nil ?_
  refine QT.n ?_
  refine WC.seq ?_
  refine WC.seq ?_
  refine WC.region ?_
  refine WL.run 2 tt_ok sg0 rfl rfl trivial ?_
  refine WL.nil ?_
  refine QT.n ?_
  refine WC.cond rfl (fun h2 => ?_) (fun h2 => ?_)
  · replace H := of_t H h2
    refine WC.seq ?_
    refine WC.region ?_
    refine WL.run 2 tt_ok sg0 rfl rfl trivial ?_
    refine WL.yv (LJ.Y.structEq .eql (.inl rfl) rfl rfl rfl (by kernel_rfl) rfl) rfl rfl rfl ?_
    refine WL.run 1 tt_ok sg0 rfl rfl trivial ?_
    refine WL.sect 2 3 true tt_ok sg0 rfl rfl (fun _ => trivial) ?_
    refine WL.run 2 tt_ok sg0 rfl rfl ⟨by first | exact id | exact fun h => by rw [h]; rfl | simp_all, trivial⟩ ?_
    obtain ⟨x3, hx3, H⟩ := of_bind H
    refine WL.sect 1 7 true tt_ok [PSig.at' law07_lives_f ((((iEq x1.1.Op 0) && ((iEq x1.1.A 0) && ((iEq x1.1.B 0) && true))) && (iEq x1.2.1 0)) = true) rfl (fun hb => law07_lives_0  (of_t hx3 hb))] rfl rfl (fun hb => ⟨⟨hb, rfl⟩, trivial⟩) ?_
    refine WL.run 2 tt_ok sg0 rfl rfl ⟨by first | exact id | exact fun h => by rw [h]; rfl | simp_all, trivial⟩ ?_
    refine WL.nil ?_
    refine QT.n ?_
    refine WC.ret ?_
    refine QT.r ?_
    cases H
    exact Ends.auto rfl rfl rfl trivial
  replace H := of_f H h2
  refine WC.skip ?_
  refine QT.n ?_
  refine WC.seq ?_
  refine WC.region ?_
  refine WL.run 1 tt_ok sg0 rfl rfl trivial ?_
  obtain ⟨x4, hx4, H⟩ := of_bind H
  refine WL.call [] (ins_Put_0 _ hx4) ins_Put_f rfl rfl trivial rfl rfl rfl ?_
  refine WL.run 5 tt_ok sg0 rfl rfl trivial ?_
  refine WL.nil ?_
  refine QT.n ?_
  refine WC.seq ?_
  refine WC.region ?_
  refine WL.run 3 tt_ok sg0 rfl rfl trivial ?_
  refine WL.sect 2 2 true tt_ok sg0 rfl rfl (fun _ => trivial) ?_
  refine WL.run 2 tt_ok sg0 rfl rfl ⟨by first | exact id | exact fun h => by rw [h]; rfl | simp_all, trivial⟩ ?_
  refine WL.sect 4 6 true tt_ok sg0 rfl rfl (fun _ => trivial) ?_
  refine WL.run 2 tt_ok sg0 rfl rfl ⟨by first | exact id | exact fun h => by rw [h]; rfl | simp_all, trivial⟩ ?_
  obtain ⟨g5, H⟩ := of_needS H
  refine WL.sect 5 12 true tt_ok sg0 rfl rfl (fun hb => ⟨(nTo_ok (g5 hb)), trivial⟩) ?_
  refine WL.run 2 tt_ok sg0 rfl rfl ⟨by first | exact id | exact fun h => by rw [h]; rfl | simp_all, trivial⟩ ?_
  obtain ⟨x6, hx6, H⟩ := of_bind H
  refine WL.sect 1 19 true tt_ok [PSig.at' law07_lives_f (((((iEq x4.2 0) && (iLt 0 x1.2.1)) && (iLe x1.2.1 (a0.size : Int))) && (sEq x4.1 (a0.extract 0 x1.2.1.toNat))) = true) rfl (fun hb => law07_lives_0  (of_t hx6 hb))] rfl rfl (fun hb => ⟨⟨hb, rfl⟩, trivial⟩) ?_
  refine WL.run 2 tt_ok sg0 rfl rfl ⟨by first | exact id | exact fun h => by rw [h]; rfl | simp_all, trivial⟩ ?_
  refine WL.nil ?_
  refine QT.n ?_
  refine WC.ret ?_
  cases H
  exact Ends.auto rfl rfl rfl trivial
theorem law07_InsOnce_f : hasFunc Tryd.prog 6 Tryd.f6 := ⟨Tryd.func6, rfl, by kernel_rfl⟩

end Go.Proofs.YtmofmaipkmedlaaDoor.W
