/- Each Go function comes to what its plain function gives, where that gives something. -/
import Derived.Test.YtjahbgdjejgkpaaDoorPF
import Derived.Test.YtjahbgdjejgkpaaDoorProg
import Derived.Test.YtjahbgdjejgkpaaDoorXBld
import Derived.Test.YtjahbgdjejgkpaaDoorXMak
namespace Go.Proofs.YtjahbgdjejgkpaaDoor.W
open Go Go.RowKit LJ
set_option linter.unusedVariables false
set_option linter.unusedSimpArgs false
set_option maxRecDepth 10000
/-- The types that the walks meet. -/
def tt : List (Nat × TK) := [(2, .int .i64), (3, .int .i64), (4, .bool), (5, .int .u8), (9, .str), (22, .int .u64), (23, .int .u64), (31, .slice 3 1), (54, .one), (57, .ptr), (58, .slice 5 1), (60, .struct 2 [(0, 1, true), (1, 1, true)] [.nilp, .nils]), (64, .int .u64), (65, .arr 64 64 5 1), (68, .ptr), (77, .one), (90, .arr 24 24 5 1), (100, .arr 20 20 22 1), (101, .int .u32), (111, .arr 32 32 5 1)]
theorem tt_ok : ttOK Tryd.prog tt = true := by kernel_rfl
/-- Elements of the slices that are appended to: cells, bytes. -/
def et : List (Nat × Nat × Nat) := [(3, 1, 8), (5, 1, 1)]
theorem et_ok : etOK Tryd.prog et = true := by kernel_rfl
theorem eb_ok : byteB Tryd.prog 5 = true := by kernel_rfl
def sg0 : List (PSig Tryd.prog) := []
def eg0 : List (ESig Tryd.prog) := []
/-! ### math/bits.RotateLeft64 -/
theorem bits_RotateLeft64_0 (a0 : Int) (a1 : Int) {r : Int} (H : bits_RotateLeft64 a0 a1 = some r) : LJ.Spec Tryd.prog 32 [.d (.int .u64 a0), .d (.int .i64 a1)] [] (.d (.int .u64 r)) [] := by
  refine LJ.Spec.code Tryd.func32 rfl 17 rfl rfl [] rfl fun w0 F0 S0 B0 => ?_
  unfold bits_RotateLeft64 at H
  refine WC.seq ?_
  refine WC.region ?_
  refine WL.run 1 tt_ok sg0 rfl rfl trivial ?_
  refine WL.nil ?_
  refine QT.n ?_
  refine WC.seq ?_
  refine WC.region ?_
  refine WL.run 4 tt_ok sg0 rfl rfl trivial ?_
  refine WL.nil ?_
  refine QT.n ?_
  refine WC.seq ?_
  refine WC.region ?_
  obtain ⟨g1, H⟩ := of_need H
  obtain ⟨g2, H⟩ := of_need H
  refine WL.run 9 tt_ok sg0 rfl rfl ⟨(nNn_ok g1), (nNn_ok g2), trivial⟩ ?_
  refine WL.nil ?_
  refine QT.n ?_
  refine WC.ret ?_
  cases H
  exact Ends.auto rfl rfl rfl trivial
theorem bits_RotateLeft64_f : hasFunc Tryd.prog 32 Tryd.f32 := ⟨Tryd.func32, rfl, by kernel_rfl⟩

/-! ### (logjam/bits.Set).Up -/
theorem bits_Set_Up_0 (a0 : Int) (a1 : Int) {r : Int} (H : bits_Set_Up a0 a1 = some r) : LJ.Spec Tryd.prog 8 [.d (.int .u64 a0), .d (.int .i64 a1)] [] (.d (.int .u64 r)) [] := by
  refine LJ.Spec.code Tryd.func8 rfl 9 rfl rfl [] rfl fun w0 F0 S0 B0 => ?_
  unfold bits_Set_Up at H
  refine WC.seq ?_
  refine WC.region ?_
  refine WL.run 1 tt_ok sg0 rfl rfl trivial ?_
  refine WL.nil ?_
  refine QT.n ?_
  refine WC.seq ?_
  refine WC.region ?_
  refine WL.run 3 tt_ok sg0 rfl rfl trivial ?_
  obtain ⟨x1, hx1, H⟩ := of_bind H
  refine WL.call [] (bits_RotateLeft64_0 _ _ hx1) bits_RotateLeft64_f rfl rfl trivial rfl rfl rfl ?_
  refine WL.run 1 tt_ok sg0 rfl rfl trivial ?_
  refine WL.nil ?_
  refine QT.n ?_
  refine WC.ret ?_
  cases H
  exact Ends.auto rfl rfl rfl trivial
theorem bits_Set_Up_f : hasFunc Tryd.prog 8 Tryd.f8 := ⟨Tryd.func8, rfl, by kernel_rfl⟩

/-! ### logjam/logjamref02.List -/
theorem ref02_List_0 (a0 : Int) {r : List Int} (H : ref02_List a0 = some r) : LJ.Spec Tryd.prog 15 [.d (.int .u64 a0)] [] (.d (slT enc_i64 r)) [] := by
  refine LJ.Spec.code Tryd.func15 rfl 20 rfl rfl [] rfl fun w0 F0 S0 B0 => ?_
  unfold ref02_List at H
  refine WC.seq ?_
  refine WC.region ?_
  refine WL.run 1 tt_ok sg0 rfl rfl trivial ?_
  refine WL.nil ?_
  refine QT.n ?_
  refine WC.seq ?_
  refine WC.region ?_
  refine WL.eff 105 tt_ok et_ok eg0 rfl rfl rfl trivial ?_
  refine WL.run 1 tt_ok sg0 rfl rfl trivial ?_
  refine WL.nil ?_
  refine QT.n ?_
  refine WC.seq ?_
  refine WC.seq ?_
  refine WC.region ?_
  refine WL.run 1 tt_ok sg0 rfl rfl trivial ?_
  refine WL.nil ?_
  refine QT.n ?_
  refine WC.block ?_
  refine WC.loop (ι := {x : Nat × (Int × Int × (List Int)) // ref02_List_l2 x.1 x.2 = some r}) (fun x => [(0, .d (.int .u64 x.1.2.1)), (3, .own 105), (4, .d (.int .i64 x.1.2.2.1))]) (fun x => [(105, .row 3 1 (x.1.2.2.2.map enc_i64))]) (fun x => x.1.1) ⟨(fuel, (a0, 0, ([] : List Int))), H⟩ (Less.mk' ⟨rfl, rfl, rfl, trivial⟩ ⟨rfl, trivial⟩) fun x => ?_
  obtain ⟨⟨k2, s1⟩, H⟩ := x
  rcases k2 with _ | k2
  · exact of_none H
  rw [ref02_List_l2] at H
  refine WC.seq ?_
  refine WC.seq ?_
  refine WC.region ?_
  refine WL.run 2 tt_ok sg0 rfl rfl trivial ?_
  refine WL.nil ?_
  refine QT.n ?_
  refine WC.cond rfl (fun h3 => ?_) (fun h3 => ?_)
  · replace H := of_t H h3
    refine WC.skip ?_
    refine QT.n ?_
    refine WC.seq ?_
    refine WC.block ?_
    refine WC.seq ?_
    refine WC.seq ?_
    refine WC.region ?_
    refine WL.run 3 tt_ok sg0 rfl rfl trivial ?_
    refine WL.nil ?_
    refine QT.n ?_
    refine WC.cond rfl (fun h4 => ?_) (fun h4 => ?_)
    · replace H := of_t H h4
      refine WC.region ?_
      refine WL.run 2 tt_ok sg0 rfl rfl trivial ?_
      refine WL.eff 115 tt_ok et_ok eg0 rfl rfl rfl trivial ?_
      refine WL.freezeT 115 enc_i64 ([s1.2.1] : List Int) rfl rfl rfl rfl ?_
      obtain ⟨g5, H⟩ := of_need H
      refine WL.appT enc_i64 s1.2.2 ([s1.2.1] : List Int) tt_ok et_ok rfl rfl (fun _ => rfl) (fun _ => rfl) rfl rfl rfl rfl (nCap_ok g5) rfl rfl rfl rfl rfl ?_
      refine WL.run 1 tt_ok sg0 rfl rfl trivial ?_
      refine WL.nil ?_
      refine QT.n ?_
      refine WC.region ?_
      refine WL.run 3 tt_ok sg0 rfl rfl trivial ?_
      refine WL.nil ?_
      refine QB.n (QT.n ?_)
      refine WC.region ?_
      refine WL.run 3 tt_ok sg0 rfl rfl trivial ?_
      refine WL.nil ?_
      refine QT.n ?_
      exact ⟨⟨(k2, (IntKind.u64.wrap (Int.tdiv s1.1 2), IntKind.i64.wrap (s1.2.1 + 1), s1.2.2 ++ ([s1.2.1] : List Int))), H⟩, Nat.lt_succ_self _, Less.mk' ⟨rfl, rfl, rfl, trivial⟩ ⟨rfl, trivial⟩⟩
    replace H := of_f H h4
    refine WC.skip ?_
    refine QT.n ?_
    refine WC.region ?_
    refine WL.run 3 tt_ok sg0 rfl rfl trivial ?_
    refine WL.nil ?_
    refine QB.n (QT.n ?_)
    refine WC.region ?_
    refine WL.run 3 tt_ok sg0 rfl rfl trivial ?_
    refine WL.nil ?_
    refine QT.n ?_
    exact ⟨⟨(k2, (IntKind.u64.wrap (Int.tdiv s1.1 2), IntKind.i64.wrap (s1.2.1 + 1), s1.2.2)), H⟩, Nat.lt_succ_self _, Less.mk' ⟨rfl, rfl, rfl, trivial⟩ ⟨rfl, trivial⟩⟩
  replace H := of_f H h3
  refine WC.exit ?_
  refine QT.x (QT.x (QB.hit (QT.n ?_)))
  refine WC.seq ?_
  refine WC.region ?_
  refine WL.run 2 tt_ok sg0 rfl rfl trivial ?_
  refine WL.nil ?_
  refine QT.n ?_
  refine WC.freezeT 105 enc_i64 s1.2.2 rfl rfl rfl rfl ?_
  refine WC.ret ?_
  cases H
  exact Ends.auto rfl rfl rfl trivial
theorem ref02_List_f : hasFunc Tryd.prog 15 Tryd.f15 := ⟨Tryd.func15, rfl, by kernel_rfl⟩

/-! ### logjam/logjamref02.Has -/
theorem ref02_Has_0 (a0 : Int) (a1 : Int) {r : Bool} (H : ref02_Has a0 a1 = some r) : LJ.Spec Tryd.prog 18 [.d (.int .u64 a0), .d (.int .i64 a1)] [] (.d (.bool r)) [] := by
  refine LJ.Spec.code Tryd.func18 rfl 22 rfl rfl [] rfl fun w0 F0 S0 B0 => ?_
  unfold ref02_Has at H
  refine WC.seq ?_
  refine WC.region ?_
  refine WL.run 1 tt_ok sg0 rfl rfl trivial ?_
  refine WL.nil ?_
  refine QT.n ?_
  refine WC.seq ?_
  refine WC.seq ?_
  refine WC.region ?_
  refine WL.run 3 tt_ok sg0 rfl rfl trivial ?_
  refine WL.sect 2 2 false tt_ok sg0 rfl rfl (fun _ => trivial) ?_
  refine WL.run 1 tt_ok sg0 rfl rfl ⟨by first | exact id | exact fun h => by rw [h]; rfl | simp_all, trivial⟩ ?_
  refine WL.nil ?_
  refine QT.n ?_
  refine WC.cond rfl (fun h1 => ?_) (fun h1 => ?_)
  · replace H := of_t H h1
    refine WC.seq ?_
    refine WC.region ?_
    refine WL.run 1 tt_ok sg0 rfl rfl trivial ?_
    refine WL.nil ?_
    refine QT.n ?_
    refine WC.ret ?_
    refine QT.r ?_
    cases H
    exact Ends.auto rfl rfl rfl trivial
  replace H := of_f H h1
  refine WC.skip ?_
  refine QT.n ?_
  refine WC.seq ?_
  refine WC.seq ?_
  refine WC.region ?_
  refine WL.run 1 tt_ok sg0 rfl rfl trivial ?_
  refine WL.nil ?_
  refine QT.n ?_
  refine WC.block ?_
  refine WC.loop (ι := {x : Nat × (Int × Int) // ref02_Has_l3 a1 x.1 x.2 = some r}) (fun x => [(0, .d (.int .u64 x.1.2.1)), (1, .d (.int .i64 a1)), (5, .d (.int .i64 x.1.2.2))]) (fun x => []) (fun x => x.1.1) ⟨(fuel, (a0, 0)), H⟩ (Less.mk' ⟨rfl, rfl, rfl, trivial⟩ trivial) fun x => ?_
  obtain ⟨⟨k3, s2⟩, H⟩ := x
  rcases k3 with _ | k3
  · exact of_none H
  rw [ref02_Has_l3] at H
  refine WC.seq ?_
  refine WC.seq ?_
  refine WC.region ?_
  refine WL.run 3 tt_ok sg0 rfl rfl trivial ?_
  refine WL.nil ?_
  refine QT.n ?_
  refine WC.cond rfl (fun h4 => ?_) (fun h4 => ?_)
  · replace H := of_t H h4
    refine WC.skip ?_
    refine QT.n ?_
    refine WC.seq ?_
    refine WC.block ?_
    refine WC.region ?_
    refine WL.run 3 tt_ok sg0 rfl rfl trivial ?_
    refine WL.nil ?_
    refine QB.n (QT.n ?_)
    refine WC.region ?_
    refine WL.run 3 tt_ok sg0 rfl rfl trivial ?_
    refine WL.nil ?_
    refine QT.n ?_
    exact ⟨⟨(k3, (IntKind.u64.wrap (Int.tdiv s2.1 2), IntKind.i64.wrap (s2.2 + 1))), H⟩, Nat.lt_succ_self _, Less.mk' ⟨rfl, rfl, rfl, trivial⟩ trivial⟩
  replace H := of_f H h4
  refine WC.exit ?_
  refine QT.x (QT.x (QB.hit (QT.n ?_)))
  refine WC.seq ?_
  refine WC.region ?_
  refine WL.run 4 tt_ok sg0 rfl rfl trivial ?_
  refine WL.nil ?_
  refine QT.n ?_
  refine WC.ret ?_
  cases H
  exact Ends.auto rfl rfl rfl trivial
theorem ref02_Has_f : hasFunc Tryd.prog 18 Tryd.f18 := ⟨Tryd.func18, rfl, by kernel_rfl⟩

/-! ### logjam/logjamref02.power -/
theorem ref02_power_0 (a0 : Int) {r : Int} (H : ref02_power a0 = some r) : LJ.Spec Tryd.prog 36 [.d (.int .i64 a0)] [] (.d (.int .u64 r)) [] := by
  refine LJ.Spec.code Tryd.func36 rfl 13 rfl rfl [] rfl fun w0 F0 S0 B0 => ?_
  unfold ref02_power at H
  refine WC.seq ?_
  refine WC.region ?_
  refine WL.run 1 tt_ok sg0 rfl rfl trivial ?_
  refine WL.nil ?_
  refine QT.n ?_
  refine WC.seq ?_
  refine WC.region ?_
  refine WL.run 1 tt_ok sg0 rfl rfl trivial ?_
  refine WL.nil ?_
  refine QT.n ?_
  refine WC.seq ?_
  refine WC.seq ?_
  refine WC.region ?_
  refine WL.run 1 tt_ok sg0 rfl rfl trivial ?_
  refine WL.nil ?_
  refine QT.n ?_
  refine WC.block ?_
  refine WC.loop (ι := {x : Nat × (Int × Int) // ref02_power_l2 a0 x.1 x.2 = some r}) (fun x => [(0, .d (.int .i64 a0)), (3, .d (.int .u64 x.1.2.1)), (4, .d (.int .i64 x.1.2.2))]) (fun x => []) (fun x => x.1.1) ⟨(fuel, (1, 0)), H⟩ (Less.mk' ⟨rfl, rfl, rfl, trivial⟩ trivial) fun x => ?_
  obtain ⟨⟨k2, s1⟩, H⟩ := x
  rcases k2 with _ | k2
  · exact of_none H
  rw [ref02_power_l2] at H
  refine WC.seq ?_
  refine WC.seq ?_
  refine WC.region ?_
  refine WL.run 3 tt_ok sg0 rfl rfl trivial ?_
  refine WL.nil ?_
  refine QT.n ?_
  refine WC.cond rfl (fun h3 => ?_) (fun h3 => ?_)
  · replace H := of_t H h3
    refine WC.skip ?_
    refine QT.n ?_
    refine WC.seq ?_
    refine WC.block ?_
    refine WC.region ?_
    refine WL.run 3 tt_ok sg0 rfl rfl trivial ?_
    refine WL.nil ?_
    refine QB.n (QT.n ?_)
    refine WC.region ?_
    refine WL.run 3 tt_ok sg0 rfl rfl trivial ?_
    refine WL.nil ?_
    refine QT.n ?_
    exact ⟨⟨(k2, (IntKind.u64.wrap (s1.1 * 2), IntKind.i64.wrap (s1.2 + 1))), H⟩, Nat.lt_succ_self _, Less.mk' ⟨rfl, rfl, rfl, trivial⟩ trivial⟩
  replace H := of_f H h3
  refine WC.exit ?_
  refine QT.x (QT.x (QB.hit (QT.n ?_)))
  refine WC.seq ?_
  refine WC.region ?_
  refine WL.run 2 tt_ok sg0 rfl rfl trivial ?_
  refine WL.nil ?_
  refine QT.n ?_
  refine WC.ret ?_
  cases H
  exact Ends.auto rfl rfl rfl trivial
theorem ref02_power_f : hasFunc Tryd.prog 36 Tryd.f36 := ⟨Tryd.func36, rfl, by kernel_rfl⟩

/-! ### logjam/logjamref02.With -/
theorem ref02_With_0 (a0 : Int) (a1 : Int) {r : Int} (H : ref02_With a0 a1 = some r) : LJ.Spec Tryd.prog 20 [.d (.int .u64 a0), .d (.int .i64 a1)] [] (.d (.int .u64 r)) [] := by
  refine LJ.Spec.code Tryd.func20 rfl 21 rfl rfl [] rfl fun w0 F0 S0 B0 => ?_
  unfold ref02_With at H
  refine WC.seq ?_
  refine WC.region ?_
  refine WL.run 1 tt_ok sg0 rfl rfl trivial ?_
  refine WL.nil ?_
  refine QT.n ?_
  refine WC.seq ?_
  refine WC.seq ?_
  refine WC.region ?_
  refine WL.run 3 tt_ok sg0 rfl rfl trivial ?_
  refine WL.sect 2 2 false tt_ok sg0 rfl rfl (fun _ => trivial) ?_
  refine WL.run 2 tt_ok sg0 rfl rfl ⟨by first | exact id | exact fun h => by rw [h]; rfl | simp_all, trivial⟩ ?_
  obtain ⟨x1, hx1, H⟩ := of_bind H
  refine WL.sect 3 6 false tt_ok [PSig.at' ref02_Has_f ((!((iLt a1 0) || (iLt 63 a1))) = true) rfl (fun hb => ref02_Has_0 _ _ (of_t hx1 hb))] rfl rfl (fun hb => ⟨⟨hb, rfl⟩, trivial⟩) ?_
  refine WL.run 1 tt_ok sg0 rfl rfl ⟨by first | exact id | exact fun h => by rw [h]; rfl | simp_all, trivial⟩ ?_
  refine WL.nil ?_
  refine QT.n ?_
  refine WC.cond rfl (fun h2 => ?_) (fun h2 => ?_)
  · replace H := of_t H h2
    refine WC.seq ?_
    refine WC.region ?_
    refine WL.run 2 tt_ok sg0 rfl rfl trivial ?_
    refine WL.nil ?_
    refine QT.n ?_
    refine WC.ret ?_
    refine QT.r ?_
    cases H
    exact Ends.auto rfl rfl rfl trivial
  replace H := of_f H h2
  refine WC.skip ?_
  refine QT.n ?_
  refine WC.seq ?_
  refine WC.region ?_
  refine WL.run 2 tt_ok sg0 rfl rfl trivial ?_
  obtain ⟨x3, hx3, H⟩ := of_bind H
  refine WL.call [] (ref02_power_0 _ hx3) ref02_power_f rfl rfl trivial rfl rfl rfl ?_
  refine WL.run 2 tt_ok sg0 rfl rfl trivial ?_
  refine WL.nil ?_
  refine QT.n ?_
  refine WC.ret ?_
  cases H
  exact Ends.auto rfl rfl rfl trivial
theorem ref02_With_f : hasFunc Tryd.prog 20 Tryd.f20 := ⟨Tryd.func20, rfl, by kernel_rfl⟩

/-! ### logjam/logjamref02.Up -/
theorem ref02_Up_0 (a0 : Int) (a1 : Int) {r : Int} (H : ref02_Up a0 a1 = some r) : LJ.Spec Tryd.prog 9 [.d (.int .u64 a0), .d (.int .i64 a1)] [] (.d (.int .u64 r)) [] := by
  refine LJ.Spec.code Tryd.func9 rfl 33 rfl rfl [] rfl fun w0 F0 S0 B0 => ?_
  unfold ref02_Up at H
  refine WC.seq ?_
  refine WC.region ?_
  refine WL.run 1 tt_ok sg0 rfl rfl trivial ?_
  refine WL.nil ?_
  refine QT.n ?_
  refine WC.seq ?_
  refine WC.region ?_
  refine WL.run 3 tt_ok sg0 rfl rfl trivial ?_
  refine WL.nil ?_
  refine QT.n ?_
  refine WC.seq ?_
  refine WC.seq ?_
  refine WC.region ?_
  refine WL.run 2 tt_ok sg0 rfl rfl trivial ?_
  refine WL.nil ?_
  refine QT.n ?_
  refine WC.cond rfl (fun h1 => ?_) (fun h1 => ?_)
  · replace H := of_t H h1
    refine WC.region ?_
    refine WL.run 3 tt_ok sg0 rfl rfl trivial ?_
    refine WL.nil ?_
    refine QT.n ?_
    refine WC.seq ?_
    refine WC.region ?_
    refine WL.run 1 tt_ok sg0 rfl rfl trivial ?_
    obtain ⟨x2, hx2, H⟩ := of_bind H
    refine WL.call [] (ref02_List_0 _ hx2) ref02_List_f rfl rfl trivial rfl rfl rfl ?_
    refine WL.run 2 tt_ok sg0 rfl rfl trivial ?_
    refine WL.nil ?_
    refine QT.n ?_
    refine WC.seq ?_
    refine WC.seq ?_
    refine WC.region ?_
    refine WL.run 1 tt_ok sg0 rfl rfl trivial ?_
    refine WL.nil ?_
    refine QT.n ?_
    refine WC.block ?_
    refine WC.loop (ι := {x : Nat × (Int × Int) // ref02_Up_l4 a1 x2 x.1 x.2 = some r}) (fun x => [(5, .d (.int .i64 (IntKind.i64.wrap ((Int.tmod a1 64) + 64)))), (6, .d (slT enc_i64 x2)), (7, .d (.int .u64 x.1.2.1)), (8, .d (.int .i64 x.1.2.2))]) (fun x => []) (fun x => x.1.1) ⟨(fuel, (0, 0)), H⟩ (Less.mk' ⟨rfl, rfl, rfl, rfl, trivial⟩ trivial) fun x => ?_
    obtain ⟨⟨k4, s3⟩, H⟩ := x
    rcases k4 with _ | k4
    · exact of_none H
    rw [ref02_Up_l4] at H
    refine WC.seq ?_
    refine WC.seq ?_
    refine WC.region ?_
    refine WL.run 4 tt_ok sg0 rfl rfl trivial ?_
    refine WL.nil ?_
    refine QT.n ?_
    refine WC.cond rfl (fun h5 => ?_) (fun h5 => ?_)
    · replace H := of_t H h5
      refine WC.skip ?_
      refine QT.n ?_
      refine WC.seq ?_
      refine WC.block ?_
      refine WC.region ?_
      obtain ⟨g6, H⟩ := of_need H
      refine WL.run 8 tt_ok sg0 rfl rfl ⟨⟨(nIn_ok g6).1, (nIn_ok g6).2, rfl⟩, trivial⟩ ?_
      obtain ⟨x7, hx7, H⟩ := of_bind H
      refine WL.call [] (ref02_With_0 _ _ hx7) ref02_With_f rfl rfl trivial rfl rfl rfl ?_
      refine WL.run 1 tt_ok sg0 rfl rfl trivial ?_
      refine WL.nil ?_
      refine QB.n (QT.n ?_)
      refine WC.region ?_
      refine WL.run 3 tt_ok sg0 rfl rfl trivial ?_
      refine WL.nil ?_
      refine QT.n ?_
      exact ⟨⟨(k4, (x7, IntKind.i64.wrap (s3.2 + 1))), H⟩, Nat.lt_succ_self _, Less.mk' ⟨rfl, rfl, rfl, rfl, trivial⟩ trivial⟩
    replace H := of_f H h5
    refine WC.exit ?_
    refine QT.x (QT.x (QB.hit (QT.n ?_)))
    refine WC.seq ?_
    refine WC.region ?_
    refine WL.run 2 tt_ok sg0 rfl rfl trivial ?_
    refine WL.nil ?_
    refine QT.n ?_
    refine WC.ret ?_
    cases H
    exact Ends.auto rfl rfl rfl trivial
  replace H := of_f H h1
  refine WC.skip ?_
  refine QT.n ?_
  refine WC.seq ?_
  refine WC.region ?_
  refine WL.run 1 tt_ok sg0 rfl rfl trivial ?_
  obtain ⟨x8, hx8, H⟩ := of_bind H
  refine WL.call [] (ref02_List_0 _ hx8) ref02_List_f rfl rfl trivial rfl rfl rfl ?_
  refine WL.run 2 tt_ok sg0 rfl rfl trivial ?_
  refine WL.nil ?_
  refine QT.n ?_
  refine WC.seq ?_
  refine WC.seq ?_
  refine WC.region ?_
  refine WL.run 1 tt_ok sg0 rfl rfl trivial ?_
  refine WL.nil ?_
  refine QT.n ?_
  refine WC.block ?_
  refine WC.loop (ι := {x : Nat × (Int × Int) // ref02_Up_l10 a1 x8 x.1 x.2 = some r}) (fun x => [(5, .d (.int .i64 (Int.tmod a1 64))), (6, .d (slT enc_i64 x8)), (7, .d (.int .u64 x.1.2.1)), (8, .d (.int .i64 x.1.2.2))]) (fun x => []) (fun x => x.1.1) ⟨(fuel, (0, 0)), H⟩ (Less.mk' ⟨rfl, rfl, rfl, rfl, trivial⟩ trivial) fun x => ?_
  obtain ⟨⟨k10, s9⟩, H⟩ := x
  rcases k10 with _ | k10
  · exact of_none H
  rw [ref02_Up_l10] at H
  refine WC.seq ?_
  refine WC.seq ?_
  refine WC.region ?_
  refine WL.run 4 tt_ok sg0 rfl rfl trivial ?_
  refine WL.nil ?_
  refine QT.n ?_
  refine WC.cond rfl (fun h11 => ?_) (fun h11 => ?_)
  · replace H := of_t H h11
    refine WC.skip ?_
    refine QT.n ?_
    refine WC.seq ?_
    refine WC.block ?_
    refine WC.region ?_
    obtain ⟨g12, H⟩ := of_need H
    refine WL.run 8 tt_ok sg0 rfl rfl ⟨⟨(nIn_ok g12).1, (nIn_ok g12).2, rfl⟩, trivial⟩ ?_
    obtain ⟨x13, hx13, H⟩ := of_bind H
    refine WL.call [] (ref02_With_0 _ _ hx13) ref02_With_f rfl rfl trivial rfl rfl rfl ?_
    refine WL.run 1 tt_ok sg0 rfl rfl trivial ?_
    refine WL.nil ?_
    refine QB.n (QT.n ?_)
    refine WC.region ?_
    refine WL.run 3 tt_ok sg0 rfl rfl trivial ?_
    refine WL.nil ?_
    refine QT.n ?_
    exact ⟨⟨(k10, (x13, IntKind.i64.wrap (s9.2 + 1))), H⟩, Nat.lt_succ_self _, Less.mk' ⟨rfl, rfl, rfl, rfl, trivial⟩ trivial⟩
  replace H := of_f H h11
  refine WC.exit ?_
  refine QT.x (QT.x (QB.hit (QT.n ?_)))
  refine WC.seq ?_
  refine WC.region ?_
  refine WL.run 2 tt_ok sg0 rfl rfl trivial ?_
  refine WL.nil ?_
  refine QT.n ?_
  refine WC.ret ?_
  cases H
  exact Ends.auto rfl rfl rfl trivial
theorem ref02_Up_f : hasFunc Tryd.prog 9 Tryd.f9 := ⟨Tryd.func9, rfl, by kernel_rfl⟩

/-! ### math/bits.OnesCount64 -/
theorem bits_OnesCount64_0 (a0 : Int) {r : Int} (H : bits_OnesCount64 a0 = some r) : LJ.Spec Tryd.prog 33 [.d (.int .u64 a0)] [] (.d (.int .i64 r)) [] := by
  refine LJ.Spec.code Tryd.func33 rfl 35 rfl rfl [] rfl fun w0 F0 S0 B0 => ?_
  unfold bits_OnesCount64 at H
  refine WC.seq ?_
  refine WC.region ?_
  refine WL.run 1 tt_ok sg0 rfl rfl trivial ?_
  refine WL.nil ?_
  refine QT.n ?_
  refine WC.seq ?_
  refine WC.region ?_
  refine WL.run 7 tt_ok sg0 rfl rfl trivial ?_
  refine WL.nil ?_
  refine QT.n ?_
  refine WC.seq ?_
  refine WC.region ?_
  refine WL.run 7 tt_ok sg0 rfl rfl trivial ?_
  refine WL.nil ?_
  refine QT.n ?_
  refine WC.seq ?_
  refine WC.region ?_
  refine WL.run 6 tt_ok sg0 rfl rfl trivial ?_
  refine WL.nil ?_
  refine QT.n ?_
  refine WC.seq ?_
  refine WC.region ?_
  refine WL.run 5 tt_ok sg0 rfl rfl trivial ?_
  refine WL.nil ?_
  refine QT.n ?_
  refine WC.seq ?_
  refine WC.region ?_
  refine WL.run 5 tt_ok sg0 rfl rfl trivial ?_
  refine WL.nil ?_
  refine QT.n ?_
  refine WC.seq ?_
  refine WC.region ?_
  refine WL.run 5 tt_ok sg0 rfl rfl trivial ?_
  refine WL.nil ?_
  refine QT.n ?_
  refine WC.seq ?_
  refine WC.region ?_
  refine WL.run 4 tt_ok sg0 rfl rfl trivial ?_
  refine WL.nil ?_
  refine QT.n ?_
  refine WC.ret ?_
  cases H
  exact Ends.auto rfl rfl rfl trivial
theorem bits_OnesCount64_f : hasFunc Tryd.prog 33 Tryd.f33 := ⟨Tryd.func33, rfl, by kernel_rfl⟩

/-! ### (logjam/bits.Set).Count -/
theorem bits_Set_Count_0 (a0 : Int) {r : Int} (H : bits_Set_Count a0 = some r) : LJ.Spec Tryd.prog 10 [.d (.int .u64 a0)] [] (.d (.int .i64 r)) [] := by
  refine LJ.Spec.code Tryd.func10 rfl 5 rfl rfl [] rfl fun w0 F0 S0 B0 => ?_
  unfold bits_Set_Count at H
  refine WC.seq ?_
  refine WC.region ?_
  refine WL.run 1 tt_ok sg0 rfl rfl trivial ?_
  refine WL.nil ?_
  refine QT.n ?_
  refine WC.seq ?_
  refine WC.region ?_
  refine WL.run 1 tt_ok sg0 rfl rfl trivial ?_
  obtain ⟨x1, hx1, H⟩ := of_bind H
  refine WL.call [] (bits_OnesCount64_0 _ hx1) bits_OnesCount64_f rfl rfl trivial rfl rfl rfl ?_
  refine WL.run 1 tt_ok sg0 rfl rfl trivial ?_
  refine WL.nil ?_
  refine QT.n ?_
  refine WC.ret ?_
  cases H
  exact Ends.auto rfl rfl rfl trivial
theorem bits_Set_Count_f : hasFunc Tryd.prog 10 Tryd.f10 := ⟨Tryd.func10, rfl, by kernel_rfl⟩

/-! ### logjam/bits.one -/
theorem bits_one_0 (a0 : Int) {r : Int} (H : bits_one a0 = some r) : LJ.Spec Tryd.prog 34 [.d (.int .i64 a0)] [] (.d (.int .u64 r)) [] := by
  refine LJ.Spec.code Tryd.func34 rfl 11 rfl rfl [] rfl fun w0 F0 S0 B0 => ?_
  unfold bits_one at H
  refine WC.seq ?_
  refine WC.region ?_
  refine WL.run 1 tt_ok sg0 rfl rfl trivial ?_
  refine WL.nil ?_
  refine QT.n ?_
  refine WC.seq ?_
  refine WC.seq ?_
  refine WC.region ?_
  refine WL.run 3 tt_ok sg0 rfl rfl trivial ?_
  refine WL.sect 2 2 false tt_ok sg0 rfl rfl (fun _ => trivial) ?_
  refine WL.run 1 tt_ok sg0 rfl rfl ⟨by first | exact id | exact fun h => by rw [h]; rfl | simp_all, trivial⟩ ?_
  refine WL.nil ?_
  refine QT.n ?_
  refine WC.cond rfl (fun h1 => ?_) (fun h1 => ?_)
  · replace H := of_t H h1
    refine WC.seq ?_
    refine WC.region ?_
    refine WL.run 1 tt_ok sg0 rfl rfl trivial ?_
    refine WL.nil ?_
    refine QT.n ?_
    refine WC.ret ?_
    refine QT.r ?_
    cases H
    exact Ends.auto rfl rfl rfl trivial
  replace H := of_f H h1
  refine WC.skip ?_
  refine QT.n ?_
  refine WC.seq ?_
  refine WC.region ?_
  obtain ⟨g2, H⟩ := of_need H
  refine WL.run 3 tt_ok sg0 rfl rfl ⟨(nNn_ok g2), trivial⟩ ?_
  refine WL.nil ?_
  refine QT.n ?_
  refine WC.ret ?_
  cases H
  exact Ends.auto rfl rfl rfl trivial
theorem bits_one_f : hasFunc Tryd.prog 34 Tryd.f34 := ⟨Tryd.func34, rfl, by kernel_rfl⟩

/-! ### logjam/bits.Of -/
theorem bits_Of_0 (a0 : List Int) {r : Int} (H : bits_Of a0 = some r) : LJ.Spec Tryd.prog 26 [.d (slT enc_i64 a0)] [] (.d (.int .u64 r)) [] := by
  refine LJ.Spec.code Tryd.func26 rfl 18 rfl rfl [] rfl fun w0 F0 S0 B0 => ?_
  unfold bits_Of at H
  refine WC.seq ?_
  refine WC.region ?_
  refine WL.run 1 tt_ok sg0 rfl rfl trivial ?_
  refine WL.nil ?_
  refine QT.n ?_
  refine WC.seq ?_
  refine WC.region ?_
  refine WL.run 1 tt_ok sg0 rfl rfl trivial ?_
  refine WL.nil ?_
  refine QT.n ?_
  refine WC.seq ?_
  refine WC.seq ?_
  refine WC.region ?_
  refine WL.run 3 tt_ok sg0 rfl rfl trivial ?_
  refine WL.nil ?_
  refine QT.n ?_
  refine WC.block ?_
  refine WC.loop (ι := {x : Nat × (Int × Int) // bits_Of_l2 a0 x.1 x.2 = some r}) (fun x => [(3, .d (.int .u64 x.1.2.1)), (6, .d (slT enc_i64 a0)), (7, .d (.int .i64 (a0.length : Int))), (8, .d (.int .i64 x.1.2.2))]) (fun x => []) (fun x => x.1.1) ⟨(fuel, (0, 0)), H⟩ (Less.mk' ⟨rfl, rfl, rfl, rfl, trivial⟩ trivial) fun x => ?_
  obtain ⟨⟨k2, s1⟩, H⟩ := x
  rcases k2 with _ | k2
  · exact of_none H
  rw [bits_Of_l2] at H
  refine WC.seq ?_
  refine WC.region ?_
  refine WL.run 1 tt_ok sg0 rfl rfl trivial ?_
  refine WL.nil ?_
  refine QT.n ?_
  refine WC.seq ?_
  refine WC.cond rfl (fun h3 => ?_) (fun h3 => ?_)
  · replace H := of_t H h3
    refine WC.skip ?_
    refine QT.n ?_
    refine WC.seq ?_
    refine WC.block ?_
    refine WC.seq ?_
    refine WC.region ?_
    obtain ⟨g4, H⟩ := of_need H
    refine WL.run 3 tt_ok sg0 rfl rfl ⟨⟨(nIn_ok g4).1, (nIn_ok g4).2, rfl⟩, trivial⟩ ?_
    refine WL.nil ?_
    refine QT.n ?_
    refine WC.region ?_
    refine WL.run 2 tt_ok sg0 rfl rfl trivial ?_
    obtain ⟨x5, hx5, H⟩ := of_bind H
    refine WL.call [] (bits_one_0 _ hx5) bits_one_f rfl rfl trivial rfl rfl rfl ?_
    refine WL.run 2 tt_ok sg0 rfl rfl trivial ?_
    refine WL.nil ?_
    refine QB.n (QT.n ?_)
    refine WC.region ?_
    refine WL.run 2 tt_ok sg0 rfl rfl trivial ?_
    refine WL.nil ?_
    refine QT.n ?_
    exact ⟨⟨(k2, (Go.bits .or .u64 s1.1 x5, IntKind.i64.wrap (s1.2 + 1))), H⟩, Nat.lt_succ_self _, Less.mk' ⟨rfl, rfl, rfl, rfl, trivial⟩ trivial⟩
  replace H := of_f H h3
  refine WC.exit ?_
  refine QT.x (QT.x (QB.hit (QT.n ?_)))
  refine WC.seq ?_
  refine WC.region ?_
  refine WL.run 2 tt_ok sg0 rfl rfl trivial ?_
  refine WL.nil ?_
  refine QT.n ?_
  refine WC.ret ?_
  cases H
  exact Ends.auto rfl rfl rfl trivial
theorem bits_Of_f : hasFunc Tryd.prog 26 Tryd.f26 := ⟨Tryd.func26, rfl, by kernel_rfl⟩

/-! ### math/bits.TrailingZeros64 -/
theorem bits_TrailingZeros64_0 (a0 : Int) {r : Int} (H : bits_TrailingZeros64 a0 = some r) : LJ.Spec Tryd.prog 35 [.d (.int .u64 a0)] [] (.d (.int .i64 r)) [] := by
  refine LJ.Spec.code Tryd.func35 rfl 14 rfl rfl [] rfl fun w0 F0 S0 B0 => ?_
  unfold bits_TrailingZeros64 at H
  refine WC.seq ?_
  refine WC.region ?_
  refine WL.run 1 tt_ok sg0 rfl rfl trivial ?_
  refine WL.nil ?_
  refine QT.n ?_
  refine WC.seq ?_
  refine WC.seq ?_
  refine WC.region ?_
  refine WL.run 2 tt_ok sg0 rfl rfl trivial ?_
  refine WL.nil ?_
  refine QT.n ?_
  refine WC.cond rfl (fun h1 => ?_) (fun h1 => ?_)
  · replace H := of_t H h1
    refine WC.seq ?_
    refine WC.region ?_
    refine WL.run 1 tt_ok sg0 rfl rfl trivial ?_
    refine WL.nil ?_
    refine QT.n ?_
    refine WC.ret ?_
    refine QT.r ?_
    cases H
    exact Ends.auto rfl rfl rfl trivial
  replace H := of_f H h1
  refine WC.skip ?_
  refine QT.n ?_
  refine WC.seq ?_
  refine WC.region ?_
  refine WL.run 6 tt_ok sg0 rfl rfl trivial ?_
  obtain ⟨g2, H⟩ := of_need H
  refine WL.yv (LJ.Y.idxElpA 64 (fun k => .int .u8 (G_math_bits_deBruijn64tab.getD k default)) ((IntKind.u64.wrap ((Go.bits .and .u64 a0 (IntKind.u64.wrap (0 - a0))) * 285870213051353865)) / 2 ^ min (58 : Int).toNat IntKind.u64.bits) (by kernel_rfl) rfl rfl rfl gl_0_take (nIn_ok g2)) rfl rfl rfl ?_
  refine WL.run 3 tt_ok sg0 rfl rfl trivial ?_
  refine WL.nil ?_
  refine QT.n ?_
  refine WC.ret ?_
  cases H
  exact Ends.auto rfl rfl rfl trivial
theorem bits_TrailingZeros64_f : hasFunc Tryd.prog 35 Tryd.f35 := ⟨Tryd.func35, rfl, by kernel_rfl⟩

/-! ### (logjam/bits.Set).First -/
theorem bits_Set_First_0 (a0 : Int) {r : Int} (H : bits_Set_First a0 = some r) : LJ.Spec Tryd.prog 14 [.d (.int .u64 a0)] [] (.d (.int .i64 r)) [] := by
  refine LJ.Spec.code Tryd.func14 rfl 7 rfl rfl [] rfl fun w0 F0 S0 B0 => ?_
  unfold bits_Set_First at H
  refine WC.seq ?_
  refine WC.region ?_
  refine WL.run 1 tt_ok sg0 rfl rfl trivial ?_
  refine WL.nil ?_
  refine QT.n ?_
  refine WC.seq ?_
  refine WC.seq ?_
  refine WC.region ?_
  refine WL.run 2 tt_ok sg0 rfl rfl trivial ?_
  refine WL.nil ?_
  refine QT.n ?_
  refine WC.cond rfl (fun h1 => ?_) (fun h1 => ?_)
  · replace H := of_t H h1
    refine WC.seq ?_
    refine WC.region ?_
    refine WL.run 1 tt_ok sg0 rfl rfl trivial ?_
    refine WL.nil ?_
    refine QT.n ?_
    refine WC.ret ?_
    refine QT.r ?_
    cases H
    exact Ends.auto rfl rfl rfl trivial
  replace H := of_f H h1
  refine WC.skip ?_
  refine QT.n ?_
  refine WC.seq ?_
  refine WC.region ?_
  refine WL.run 1 tt_ok sg0 rfl rfl trivial ?_
  obtain ⟨x2, hx2, H⟩ := of_bind H
  refine WL.call [] (bits_TrailingZeros64_0 _ hx2) bits_TrailingZeros64_f rfl rfl trivial rfl rfl rfl ?_
  refine WL.run 1 tt_ok sg0 rfl rfl trivial ?_
  refine WL.nil ?_
  refine QT.n ?_
  refine WC.ret ?_
  cases H
  exact Ends.auto rfl rfl rfl trivial
theorem bits_Set_First_f : hasFunc Tryd.prog 14 Tryd.f14 := ⟨Tryd.func14, rfl, by kernel_rfl⟩

/-! ### (logjam/bits.Set).List -/
theorem bits_Set_List_0 (a0 : Int) {r : List Int} (H : bits_Set_List a0 = some r) : LJ.Spec Tryd.prog 25 [.d (.int .u64 a0)] [] (.d (slT enc_i64 r)) [] := by
  refine LJ.Spec.code Tryd.func25 rfl 19 rfl rfl [] rfl fun w0 F0 S0 B0 => ?_
  unfold bits_Set_List at H
  refine WC.seq ?_
  refine WC.region ?_
  refine WL.run 1 tt_ok sg0 rfl rfl trivial ?_
  refine WL.nil ?_
  refine QT.n ?_
  refine WC.seq ?_
  refine WC.region ?_
  refine WL.run 1 tt_ok sg0 rfl rfl trivial ?_
  obtain ⟨x1, hx1, H⟩ := of_bind H
  refine WL.call [] (bits_Set_Count_0 _ hx1) bits_Set_Count_f rfl rfl trivial rfl rfl rfl ?_
  obtain ⟨g2, H⟩ := of_need H
  refine WL.makeC (r := 106) enc_i64 (0 : Int) x1 tt_ok et_ok rfl rfl rfl rfl rfl rfl rfl (nMk_ok g2) rfl rfl rfl rfl ?_
  refine WL.run 1 tt_ok sg0 rfl rfl trivial ?_
  refine WL.nil ?_
  refine QT.n ?_
  refine WC.seq ?_
  refine WC.block ?_
  refine WC.loop (ι := {x : Nat × (Int × (List Int)) // bits_Set_List_l4 x.1 x.2 = some r}) (fun x => [(0, .d (.int .u64 x.1.2.1)), (3, .own 106)]) (fun x => [(106, .row 3 1 (x.1.2.2.map enc_i64))]) (fun x => x.1.1) ⟨(fuel, (a0, ([] : List Int))), H⟩ (Less.mk' ⟨rfl, rfl, trivial⟩ ⟨rfl, trivial⟩) fun x => ?_
  obtain ⟨⟨k4, s3⟩, H⟩ := x
  rcases k4 with _ | k4
  · exact of_none H
  rw [bits_Set_List_l4] at H
  refine WC.seq ?_
  refine WC.seq ?_
  refine WC.region ?_
  refine WL.run 2 tt_ok sg0 rfl rfl trivial ?_
  refine WL.nil ?_
  refine QT.n ?_
  refine WC.cond rfl (fun h5 => ?_) (fun h5 => ?_)
  · replace H := of_t H h5
    refine WC.skip ?_
    refine QT.n ?_
    refine WC.seq ?_
    refine WC.block ?_
    refine WC.region ?_
    refine WL.run 2 tt_ok sg0 rfl rfl trivial ?_
    obtain ⟨x6, hx6, H⟩ := of_bind H
    refine WL.call [] (bits_Set_First_0 _ hx6) bits_Set_First_f rfl rfl trivial rfl rfl rfl ?_
    refine WL.eff 116 tt_ok et_ok eg0 rfl rfl rfl trivial ?_
    refine WL.freezeT 116 enc_i64 ([x6] : List Int) rfl rfl rfl rfl ?_
    obtain ⟨g7, H⟩ := of_need H
    refine WL.appT enc_i64 s3.2 ([x6] : List Int) tt_ok et_ok rfl rfl (fun _ => rfl) (fun _ => rfl) rfl rfl rfl rfl (nCap_ok g7) rfl rfl rfl rfl rfl ?_
    refine WL.run 1 tt_ok sg0 rfl rfl trivial ?_
    refine WL.nil ?_
    refine QB.n (QT.n ?_)
    refine WC.region ?_
    refine WL.run 5 tt_ok sg0 rfl rfl trivial ?_
    refine WL.nil ?_
    refine QT.n ?_
    exact ⟨⟨(k4, (Go.bits .and .u64 s3.1 (IntKind.u64.wrap (s3.1 - 1)), s3.2 ++ ([x6] : List Int))), H⟩, Nat.lt_succ_self _, Less.mk' ⟨rfl, rfl, trivial⟩ ⟨rfl, trivial⟩⟩
  replace H := of_f H h5
  refine WC.exit ?_
  refine QT.x (QT.x (QB.hit (QT.n ?_)))
  refine WC.seq ?_
  refine WC.region ?_
  refine WL.run 2 tt_ok sg0 rfl rfl trivial ?_
  refine WL.nil ?_
  refine QT.n ?_
  refine WC.freezeT 106 enc_i64 s3.2 rfl rfl rfl rfl ?_
  refine WC.ret ?_
  cases H
  exact Ends.auto rfl rfl rfl trivial
theorem bits_Set_List_f : hasFunc Tryd.prog 25 Tryd.f25 := ⟨Tryd.func25, rfl, by kernel_rfl⟩

/-! ### (*strings.Builder).copyCheck -/
theorem strings_Builder_copyCheck_0 (a0 : T_strings_Builder) {r : T_strings_Builder} (H : strings_Builder_copyCheck a0 = some r) : LJ.Spec Tryd.prog 47 [.ptr 0 0] [(0, .box 60 [.optp a0.addr 0 0, .own 1]), (1, .row 5 1 (rowOf a0.buf))] (.tup []) [(1, .row 5 1 (rowOf r.buf)), (0, .box 60 [.optp r.addr 0 0, .own 1])] := by
  refine LJ.Spec.code Tryd.func47 rfl 20 rfl rfl [0] rfl fun w0 F0 S0 B0 => ?_
  unfold strings_Builder_copyCheck at H
  refine WC.seq ?_
  refine WC.region ?_
  refine WL.run 4 tt_ok sg0 rfl rfl trivial ?_
  refine WL.yv (LJ.Y.oeql rfl rfl rfl (by kernel_rfl)) rfl rfl rfl ?_
  refine WL.nil ?_
  refine QT.n ?_
  refine WC.cond rfl (fun h1 => ?_) (fun h1 => ?_)
  · replace H := of_t H h1
    refine WC.region ?_
    refine WL.run 2 tt_ok sg0 rfl rfl trivial ?_
    refine WL.yv (LJ.Y.toUns 60 rfl rfl rfl rfl (by kernel_rfl) (by kernel_rfl) (by kernel_rfl)) rfl rfl rfl ?_
    refine WL.yv (LJ.Y.noEsc rfl rfl Tryd.func57 (by kernel_rfl) (by kernel_rfl) (by kernel_rfl) (by kernel_rfl)) rfl rfl rfl ?_
    refine WL.yv (LJ.Y.fromUns 60 rfl rfl rfl (by kernel_rfl) (by kernel_rfl) (by kernel_rfl) (by kernel_rfl)) rfl rfl rfl ?_
    refine WL.run 2 tt_ok sg0 rfl rfl trivial ?_
    refine WL.eff 0 tt_ok et_ok eg0 rfl rfl rfl trivial ?_
    refine WL.nil ?_
    cases H
    exact Ends.auton rfl rfl rfl ⟨rfl, rfl, trivial⟩
  replace H := of_f H h1
  refine WC.seq ?_
  refine WC.region ?_
  refine WL.run 5 tt_ok sg0 rfl rfl trivial ?_
  refine WL.yv (LJ.Y.oneq rfl rfl rfl (by kernel_rfl) (by kernel_rfl)) rfl rfl rfl ?_
  refine WL.nil ?_
  refine QT.n ?_
  refine WC.cond rfl (fun h2 => ?_) (fun h2 => ?_)
  · replace H := of_t H h2
    exact of_none H
  replace H := of_f H h2
  refine WC.skip ?_
  cases H
  exact Ends.auton rfl rfl rfl ⟨rfl, rfl, trivial⟩
theorem strings_Builder_copyCheck_s (n0 n1 : Nat) (hn : nodupB [n0, n1] = true) (a0 : T_strings_Builder) {r : T_strings_Builder} (H : strings_Builder_copyCheck a0 = some r) : LJ.Spec Tryd.prog 47 [.ptr n0 0] [(n0, .box 60 [.optp a0.addr n0 0, .own n1]), (n1, .row 5 1 (rowOf a0.buf))] (.tup []) [(n1, .row 5 1 (rowOf r.buf)), (n0, .box 60 [.optp r.addr n0 0, .own n1])] :=
  Spec.names [n0, n1] hn rfl rfl (strings_Builder_copyCheck_0 a0 H)
theorem strings_Builder_copyCheck_f : hasFunc Tryd.prog 47 Tryd.f47 := ⟨Tryd.func47, rfl, by kernel_rfl⟩

/-! ### (*strings.Builder).WriteByte -/
theorem strings_Builder_WriteByte_0 (a0 : T_strings_Builder) (a1 : Int) {r : Unit × T_strings_Builder} (H : strings_Builder_WriteByte a0 a1 = some r) : LJ.Spec Tryd.prog 39 [.ptr 0 0, .d (.int .u8 a1)] [(0, .box 60 [.optp a0.addr 0 0, .own 1]), (1, .row 5 1 (rowOf a0.buf))] (.d (.nili)) [(1, .row 5 1 (rowOf r.2.buf)), (0, .box 60 [.optp r.2.addr 0 0, .own 1])] := by
  refine LJ.Spec.code Tryd.func39 rfl 17 rfl rfl [0] rfl fun w0 F0 S0 B0 => ?_
  unfold strings_Builder_WriteByte at H
  refine WC.seq ?_
  refine WC.region ?_
  refine WL.run 1 tt_ok sg0 rfl rfl trivial ?_
  refine WL.nil ?_
  refine QT.n ?_
  refine WC.seq ?_
  refine WC.region ?_
  refine WL.run 1 tt_ok sg0 rfl rfl trivial ?_
  obtain ⟨x1, hx1, H⟩ := of_bind H
  refine WL.call [1] (strings_Builder_copyCheck_s 0 1 rfl _ hx1) strings_Builder_copyCheck_f rfl rfl ⟨rfl, rfl, trivial⟩ rfl rfl rfl ?_
  refine WL.nil ?_
  refine QT.n ?_
  refine WC.seq ?_
  refine WC.region ?_
  refine WL.run 6 tt_ok sg0 rfl rfl trivial ?_
  refine WL.eff 113 tt_ok et_ok eg0 rfl rfl rfl trivial ?_
  obtain ⟨g2, H⟩ := of_need H
  obtain ⟨g3, H⟩ := of_need H
  refine WL.eff 0 tt_ok et_ok eg0 rfl rfl rfl (appOK_bytes rfl (nCap_ok g2)) ?_
  refine WL.row 1 (rowOf (x1.buf.push (UInt8.ofNat a1.toNat))) rfl (rowOf_one (nIn_ok g3).1 (nIn_ok g3).2) rfl ?_
  refine WL.run 2 tt_ok sg0 rfl rfl trivial ?_
  refine WL.eff 0 tt_ok et_ok eg0 rfl rfl rfl trivial ?_
  refine WL.nil ?_
  refine QT.n ?_
  refine WC.seq ?_
  refine WC.region ?_
  refine WL.run 1 tt_ok sg0 rfl rfl trivial ?_
  refine WL.nil ?_
  refine QT.n ?_
  refine WC.ret ?_
  cases H
  exact Ends.auto rfl rfl rfl ⟨rfl, rfl, trivial⟩
theorem strings_Builder_WriteByte_s (n0 n1 : Nat) (hn : nodupB [n0, n1] = true) (a0 : T_strings_Builder) (a1 : Int) {r : Unit × T_strings_Builder} (H : strings_Builder_WriteByte a0 a1 = some r) : LJ.Spec Tryd.prog 39 [.ptr n0 0, .d (.int .u8 a1)] [(n0, .box 60 [.optp a0.addr n0 0, .own n1]), (n1, .row 5 1 (rowOf a0.buf))] (.d (.nili)) [(n1, .row 5 1 (rowOf r.2.buf)), (n0, .box 60 [.optp r.2.addr n0 0, .own n1])] :=
  Spec.names [n0, n1] hn rfl rfl (strings_Builder_WriteByte_0 a0 a1 H)
theorem strings_Builder_WriteByte_f : hasFunc Tryd.prog 39 Tryd.f39 := ⟨Tryd.func39, rfl, by kernel_rfl⟩

/-! ### internal/strconv.small -/
theorem istrconv_small_0 (a0 : Int) {r : ByteArray} (H : istrconv_small a0 = some r) : LJ.Spec Tryd.prog 66 [.d (.int .i64 a0)] [] (.d (.str r)) [] := by
  refine LJ.Spec.code Tryd.func66 rfl 15 rfl rfl [] rfl fun w0 F0 S0 B0 => ?_
  unfold istrconv_small at H
  refine WC.seq ?_
  refine WC.region ?_
  refine WL.run 1 tt_ok sg0 rfl rfl trivial ?_
  refine WL.nil ?_
  refine QT.n ?_
  refine WC.seq ?_
  refine WC.seq ?_
  refine WC.region ?_
  refine WL.run 2 tt_ok sg0 rfl rfl trivial ?_
  refine WL.nil ?_
  refine QT.n ?_
  refine WC.cond rfl (fun h1 => ?_) (fun h1 => ?_)
  · replace H := of_t H h1
    refine WC.seq ?_
    refine WC.region ?_
    obtain ⟨g2, H⟩ := of_need H
    refine WL.run 5 tt_ok sg0 rfl rfl ⟨(nSl_ok g2), trivial⟩ ?_
    refine WL.nil ?_
    refine QT.n ?_
    refine WC.ret ?_
    refine QT.r ?_
    cases H
    exact Ends.auto rfl rfl rfl trivial
  replace H := of_f H h1
  refine WC.skip ?_
  refine QT.n ?_
  refine WC.seq ?_
  refine WC.region ?_
  obtain ⟨g3, H⟩ := of_need H
  refine WL.run 7 tt_ok sg0 rfl rfl ⟨(nSl_ok g3), trivial⟩ ?_
  refine WL.nil ?_
  refine QT.n ?_
  refine WC.ret ?_
  cases H
  exact Ends.auto rfl rfl rfl trivial
theorem istrconv_small_f : hasFunc Tryd.prog 66 Tryd.f66 := ⟨Tryd.func66, rfl, by kernel_rfl⟩

/-! ### math/bits.Len64 -/
theorem bits_Len64_0 (a0 : Int) {r : Int} (H : bits_Len64 a0 = some r) : LJ.Spec Tryd.prog 78 [.d (.int .u64 a0)] [] (.d (.int .i64 r)) [] := by
  refine LJ.Spec.code Tryd.func78 rfl 25 rfl rfl [] rfl fun w0 F0 S0 B0 => ?_
  unfold bits_Len64 at H
  refine WC.seq ?_
  refine WC.region ?_
  refine WL.run 1 tt_ok sg0 rfl rfl trivial ?_
  refine WL.nil ?_
  refine QT.n ?_
  refine WC.seq ?_
  refine WC.seq ?_
  refine WC.region ?_
  refine WL.run 2 tt_ok sg0 rfl rfl trivial ?_
  refine WL.nil ?_
  refine QT.n ?_
  refine WC.cond rfl (fun h1 => ?_) (fun h1 => ?_)
  · replace H := of_t H h1
    refine WC.seq ?_
    refine WC.region ?_
    refine WL.run 3 tt_ok sg0 rfl rfl trivial ?_
    refine WL.nil ?_
    refine QT.n ?_
    refine WC.region ?_
    refine WL.run 1 tt_ok sg0 rfl rfl trivial ?_
    refine WL.nil ?_
    refine QT.n ?_
    refine WC.seq ?_
    refine WC.seq ?_
    refine WC.region ?_
    refine WL.run 2 tt_ok sg0 rfl rfl trivial ?_
    refine WL.nil ?_
    refine QT.n ?_
    refine WC.cond rfl (fun h2 => ?_) (fun h2 => ?_)
    · replace H := of_t H h2
      refine WC.seq ?_
      refine WC.region ?_
      refine WL.run 3 tt_ok sg0 rfl rfl trivial ?_
      refine WL.nil ?_
      refine QT.n ?_
      refine WC.region ?_
      refine WL.run 3 tt_ok sg0 rfl rfl trivial ?_
      refine WL.nil ?_
      refine QT.n ?_
      refine WC.seq ?_
      refine WC.seq ?_
      refine WC.region ?_
      refine WL.run 2 tt_ok sg0 rfl rfl trivial ?_
      refine WL.nil ?_
      refine QT.n ?_
      refine WC.cond rfl (fun h3 => ?_) (fun h3 => ?_)
      · replace H := of_t H h3
        refine WC.seq ?_
        refine WC.region ?_
        refine WL.run 3 tt_ok sg0 rfl rfl trivial ?_
        refine WL.nil ?_
        refine QT.n ?_
        refine WC.region ?_
        refine WL.run 3 tt_ok sg0 rfl rfl trivial ?_
        refine WL.nil ?_
        refine QT.n ?_
        refine WC.seq ?_
        refine WC.region ?_
        obtain ⟨g4, H⟩ := of_need H
        refine WL.run 7 tt_ok sg0 rfl rfl ⟨(nIn_ok g4), trivial⟩ ?_
        refine WL.nil ?_
        refine QT.n ?_
        refine WC.ret ?_
        cases H
        exact Ends.auto rfl rfl rfl trivial
      replace H := of_f H h3
      refine WC.skip ?_
      refine QT.n ?_
      refine WC.seq ?_
      refine WC.region ?_
      obtain ⟨g5, H⟩ := of_need H
      refine WL.run 7 tt_ok sg0 rfl rfl ⟨(nIn_ok g5), trivial⟩ ?_
      refine WL.nil ?_
      refine QT.n ?_
      refine WC.ret ?_
      cases H
      exact Ends.auto rfl rfl rfl trivial
    replace H := of_f H h2
    refine WC.skip ?_
    refine QT.n ?_
    refine WC.seq ?_
    refine WC.seq ?_
    refine WC.region ?_
    refine WL.run 2 tt_ok sg0 rfl rfl trivial ?_
    refine WL.nil ?_
    refine QT.n ?_
    refine WC.cond rfl (fun h6 => ?_) (fun h6 => ?_)
    · replace H := of_t H h6
      refine WC.seq ?_
      refine WC.region ?_
      refine WL.run 3 tt_ok sg0 rfl rfl trivial ?_
      refine WL.nil ?_
      refine QT.n ?_
      refine WC.region ?_
      refine WL.run 3 tt_ok sg0 rfl rfl trivial ?_
      refine WL.nil ?_
      refine QT.n ?_
      refine WC.seq ?_
      refine WC.region ?_
      obtain ⟨g7, H⟩ := of_need H
      refine WL.run 7 tt_ok sg0 rfl rfl ⟨(nIn_ok g7), trivial⟩ ?_
      refine WL.nil ?_
      refine QT.n ?_
      refine WC.ret ?_
      cases H
      exact Ends.auto rfl rfl rfl trivial
    replace H := of_f H h6
    refine WC.skip ?_
    refine QT.n ?_
    refine WC.seq ?_
    refine WC.region ?_
    obtain ⟨g8, H⟩ := of_need H
    refine WL.run 7 tt_ok sg0 rfl rfl ⟨(nIn_ok g8), trivial⟩ ?_
    refine WL.nil ?_
    refine QT.n ?_
    refine WC.ret ?_
    cases H
    exact Ends.auto rfl rfl rfl trivial
  replace H := of_f H h1
  refine WC.skip ?_
  refine QT.n ?_
  refine WC.seq ?_
  refine WC.seq ?_
  refine WC.region ?_
  refine WL.run 2 tt_ok sg0 rfl rfl trivial ?_
  refine WL.nil ?_
  refine QT.n ?_
  refine WC.cond rfl (fun h9 => ?_) (fun h9 => ?_)
  · replace H := of_t H h9
    refine WC.seq ?_
    refine WC.region ?_
    refine WL.run 3 tt_ok sg0 rfl rfl trivial ?_
    refine WL.nil ?_
    refine QT.n ?_
    refine WC.region ?_
    refine WL.run 3 tt_ok sg0 rfl rfl trivial ?_
    refine WL.nil ?_
    refine QT.n ?_
    refine WC.seq ?_
    refine WC.seq ?_
    refine WC.region ?_
    refine WL.run 2 tt_ok sg0 rfl rfl trivial ?_
    refine WL.nil ?_
    refine QT.n ?_
    refine WC.cond rfl (fun h10 => ?_) (fun h10 => ?_)
    · replace H := of_t H h10
      refine WC.seq ?_
      refine WC.region ?_
      refine WL.run 3 tt_ok sg0 rfl rfl trivial ?_
      refine WL.nil ?_
      refine QT.n ?_
      refine WC.region ?_
      refine WL.run 3 tt_ok sg0 rfl rfl trivial ?_
      refine WL.nil ?_
      refine QT.n ?_
      refine WC.seq ?_
      refine WC.region ?_
      obtain ⟨g11, H⟩ := of_need H
      refine WL.run 7 tt_ok sg0 rfl rfl ⟨(nIn_ok g11), trivial⟩ ?_
      refine WL.nil ?_
      refine QT.n ?_
      refine WC.ret ?_
      cases H
      exact Ends.auto rfl rfl rfl trivial
    replace H := of_f H h10
    refine WC.skip ?_
    refine QT.n ?_
    refine WC.seq ?_
    refine WC.region ?_
    obtain ⟨g12, H⟩ := of_need H
    refine WL.run 7 tt_ok sg0 rfl rfl ⟨(nIn_ok g12), trivial⟩ ?_
    refine WL.nil ?_
    refine QT.n ?_
    refine WC.ret ?_
    cases H
    exact Ends.auto rfl rfl rfl trivial
  replace H := of_f H h9
  refine WC.skip ?_
  refine QT.n ?_
  refine WC.seq ?_
  refine WC.seq ?_
  refine WC.region ?_
  refine WL.run 2 tt_ok sg0 rfl rfl trivial ?_
  refine WL.nil ?_
  refine QT.n ?_
  refine WC.cond rfl (fun h13 => ?_) (fun h13 => ?_)
  · replace H := of_t H h13
    refine WC.seq ?_
    refine WC.region ?_
    refine WL.run 3 tt_ok sg0 rfl rfl trivial ?_
    refine WL.nil ?_
    refine QT.n ?_
    refine WC.region ?_
    refine WL.run 3 tt_ok sg0 rfl rfl trivial ?_
    refine WL.nil ?_
    refine QT.n ?_
    refine WC.seq ?_
    refine WC.region ?_
    obtain ⟨g14, H⟩ := of_need H
    refine WL.run 7 tt_ok sg0 rfl rfl ⟨(nIn_ok g14), trivial⟩ ?_
    refine WL.nil ?_
    refine QT.n ?_
    refine WC.ret ?_
    cases H
    exact Ends.auto rfl rfl rfl trivial
  replace H := of_f H h13
  refine WC.skip ?_
  refine QT.n ?_
  refine WC.seq ?_
  refine WC.region ?_
  obtain ⟨g15, H⟩ := of_need H
  refine WL.run 7 tt_ok sg0 rfl rfl ⟨(nIn_ok g15), trivial⟩ ?_
  refine WL.nil ?_
  refine QT.n ?_
  refine WC.ret ?_
  cases H
  exact Ends.auto rfl rfl rfl trivial
theorem bits_Len64_f : hasFunc Tryd.prog 78 Tryd.f78 := ⟨Tryd.func78, rfl, by kernel_rfl⟩

/-! ### internal/strconv.log10Pow2 -/
theorem istrconv_log10Pow2_0 (a0 : Int) {r : Int} (H : istrconv_log10Pow2 a0 = some r) : LJ.Spec Tryd.prog 77 [.d (.int .i64 a0)] [] (.d (.int .i64 r)) [] := by
  refine LJ.Spec.code Tryd.func77 rfl 6 rfl rfl [] rfl fun w0 F0 S0 B0 => ?_
  unfold istrconv_log10Pow2 at H
  refine WC.seq ?_
  refine WC.region ?_
  refine WL.run 1 tt_ok sg0 rfl rfl trivial ?_
  refine WL.nil ?_
  refine QT.n ?_
  refine WC.seq ?_
  refine WC.region ?_
  refine WL.run 4 tt_ok sg0 rfl rfl trivial ?_
  refine WL.nil ?_
  refine QT.n ?_
  refine WC.ret ?_
  cases H
  exact Ends.auto rfl rfl rfl trivial
theorem istrconv_log10Pow2_f : hasFunc Tryd.prog 77 Tryd.f77 := ⟨Tryd.func77, rfl, by kernel_rfl⟩

/-! ### internal/strconv.bool2[int] -/
theorem istrconv_bool2_int__0 (a0 : Bool) {r : Int} (H : istrconv_bool2_int_ a0 = some r) : LJ.Spec Tryd.prog 79 [.d (.bool a0)] [] (.d (.int .i64 r)) [] := by
  refine LJ.Spec.code Tryd.func79 rfl 4 rfl rfl [] rfl fun w0 F0 S0 B0 => ?_
  unfold istrconv_bool2_int_ at H
  refine WC.seq ?_
  refine WC.region ?_
  refine WL.run 1 tt_ok sg0 rfl rfl trivial ?_
  refine WL.nil ?_
  refine QT.n ?_
  refine WC.seq ?_
  refine WC.seq ?_
  refine WC.region ?_
  refine WL.run 1 tt_ok sg0 rfl rfl trivial ?_
  refine WL.nil ?_
  refine QT.n ?_
  refine WC.cond rfl (fun h1 => ?_) (fun h1 => ?_)
  · replace H := of_t H h1
    refine WC.seq ?_
    refine WC.region ?_
    refine WL.run 1 tt_ok sg0 rfl rfl trivial ?_
    refine WL.nil ?_
    refine QT.n ?_
    refine WC.ret ?_
    refine QT.r ?_
    cases H
    exact Ends.auto rfl rfl rfl trivial
  replace H := of_f H h1
  refine WC.skip ?_
  refine QT.n ?_
  refine WC.seq ?_
  refine WC.region ?_
  refine WL.run 1 tt_ok sg0 rfl rfl trivial ?_
  refine WL.nil ?_
  refine QT.n ?_
  refine WC.ret ?_
  cases H
  exact Ends.auto rfl rfl rfl trivial
theorem istrconv_bool2_int__f : hasFunc Tryd.prog 79 Tryd.f79 := ⟨Tryd.func79, rfl, by kernel_rfl⟩

/-! ### internal/strconv.numDigits -/
theorem istrconv_numDigits_0 (a0 : Int) {r : Int} (H : istrconv_numDigits a0 = some r) : LJ.Spec Tryd.prog 67 [.d (.int .u64 a0)] [] (.d (.int .i64 r)) [] := by
  refine LJ.Spec.code Tryd.func67 rfl 15 rfl rfl [] rfl fun w0 F0 S0 B0 => ?_
  unfold istrconv_numDigits at H
  refine WC.seq ?_
  refine WC.region ?_
  refine WL.run 1 tt_ok sg0 rfl rfl trivial ?_
  refine WL.nil ?_
  refine QT.n ?_
  refine WC.seq ?_
  refine WC.region ?_
  refine WL.run 1 tt_ok sg0 rfl rfl trivial ?_
  obtain ⟨x1, hx1, H⟩ := of_bind H
  refine WL.call [] (bits_Len64_0 _ hx1) bits_Len64_f rfl rfl trivial rfl rfl rfl ?_
  obtain ⟨x2, hx2, H⟩ := of_bind H
  refine WL.call [] (istrconv_log10Pow2_0 _ hx2) istrconv_log10Pow2_f rfl rfl trivial rfl rfl rfl ?_
  refine WL.run 1 tt_ok sg0 rfl rfl trivial ?_
  refine WL.nil ?_
  refine QT.n ?_
  refine WC.seq ?_
  refine WC.region ?_
  refine WL.run 3 tt_ok sg0 rfl rfl trivial ?_
  obtain ⟨g3, H⟩ := of_need H
  refine WL.yv (LJ.Y.idxElpA 20 (fun k => .int .u64 (G_internal_strconv_uint64pow10.getD k default)) x2 (by kernel_rfl) rfl rfl rfl gl_4_take (nIn_ok g3)) rfl rfl rfl ?_
  refine WL.run 2 tt_ok sg0 rfl rfl trivial ?_
  obtain ⟨x4, hx4, H⟩ := of_bind H
  refine WL.call [] (istrconv_bool2_int__0 _ hx4) istrconv_bool2_int__f rfl rfl trivial rfl rfl rfl ?_
  refine WL.run 2 tt_ok sg0 rfl rfl trivial ?_
  refine WL.nil ?_
  refine QT.n ?_
  refine WC.ret ?_
  cases H
  exact Ends.auto rfl rfl rfl trivial
theorem istrconv_numDigits_f : hasFunc Tryd.prog 67 Tryd.f67 := ⟨Tryd.func67, rfl, by kernel_rfl⟩

/-! ### internal/strconv.isPowerOfTwo -/
theorem istrconv_isPowerOfTwo_0 (a0 : Int) {r : Bool} (H : istrconv_isPowerOfTwo a0 = some r) : LJ.Spec Tryd.prog 80 [.d (.int .i64 a0)] [] (.d (.bool r)) [] := by
  refine LJ.Spec.code Tryd.func80 rfl 8 rfl rfl [] rfl fun w0 F0 S0 B0 => ?_
  unfold istrconv_isPowerOfTwo at H
  refine WC.seq ?_
  refine WC.region ?_
  refine WL.run 1 tt_ok sg0 rfl rfl trivial ?_
  refine WL.nil ?_
  refine QT.n ?_
  refine WC.seq ?_
  refine WC.region ?_
  refine WL.run 6 tt_ok sg0 rfl rfl trivial ?_
  refine WL.nil ?_
  refine QT.n ?_
  refine WC.ret ?_
  cases H
  exact Ends.auto rfl rfl rfl trivial
theorem istrconv_isPowerOfTwo_f : hasFunc Tryd.prog 80 Tryd.f80 := ⟨Tryd.func80, rfl, by kernel_rfl⟩

/-! ### math/bits.TrailingZeros32 -/
theorem bits_TrailingZeros32_0 (a0 : Int) {r : Int} (H : bits_TrailingZeros32 a0 = some r) : LJ.Spec Tryd.prog 84 [.d (.int .u32 a0)] [] (.d (.int .i64 r)) [] := by
  refine LJ.Spec.code Tryd.func84 rfl 14 rfl rfl [] rfl fun w0 F0 S0 B0 => ?_
  unfold bits_TrailingZeros32 at H
  refine WC.seq ?_
  refine WC.region ?_
  refine WL.run 1 tt_ok sg0 rfl rfl trivial ?_
  refine WL.nil ?_
  refine QT.n ?_
  refine WC.seq ?_
  refine WC.seq ?_
  refine WC.region ?_
  refine WL.run 2 tt_ok sg0 rfl rfl trivial ?_
  refine WL.nil ?_
  refine QT.n ?_
  refine WC.cond rfl (fun h1 => ?_) (fun h1 => ?_)
  · replace H := of_t H h1
    refine WC.seq ?_
    refine WC.region ?_
    refine WL.run 1 tt_ok sg0 rfl rfl trivial ?_
    refine WL.nil ?_
    refine QT.n ?_
    refine WC.ret ?_
    refine QT.r ?_
    cases H
    exact Ends.auto rfl rfl rfl trivial
  replace H := of_f H h1
  refine WC.skip ?_
  refine QT.n ?_
  refine WC.seq ?_
  refine WC.region ?_
  refine WL.run 6 tt_ok sg0 rfl rfl trivial ?_
  obtain ⟨g2, H⟩ := of_need H
  refine WL.yv (LJ.Y.idxElpA 32 (fun k => .int .u8 (G_math_bits_deBruijn32tab.getD k default)) ((IntKind.u32.wrap ((Go.bits .and .u32 a0 (IntKind.u32.wrap (0 - a0))) * 125613361)) / 2 ^ min (27 : Int).toNat IntKind.u32.bits) (by kernel_rfl) rfl rfl rfl gl_7_take (nIn_ok g2)) rfl rfl rfl ?_
  refine WL.run 3 tt_ok sg0 rfl rfl trivial ?_
  refine WL.nil ?_
  refine QT.n ?_
  refine WC.ret ?_
  cases H
  exact Ends.auto rfl rfl rfl trivial
theorem bits_TrailingZeros32_f : hasFunc Tryd.prog 84 Tryd.f84 := ⟨Tryd.func84, rfl, by kernel_rfl⟩

/-! ### internal/strconv.FormatInt -/
theorem istrconv_FormatInt_0 (a0 : Int) (a1 : Int) {r : ByteArray} (H : istrconv_FormatInt a0 a1 = some r) : LJ.Spec Tryd.prog 58 [.d (.int .i64 a0), .d (.int .i64 a1)] [] (.d (.str r)) [] := by
  refine LJ.Spec.code Tryd.func58 rfl 54 rfl rfl [] rfl fun w0 F0 S0 B0 => ?_
  unfold istrconv_FormatInt at H
  refine WC.seq ?_
  refine WC.region ?_
  refine WL.run 1 tt_ok sg0 rfl rfl trivial ?_
  refine WL.nil ?_
  refine QT.n ?_
  refine WC.seq ?_
  refine WC.seq ?_
  refine WC.region ?_
  refine WL.run 2 tt_ok sg0 rfl rfl trivial ?_
  refine WL.nil ?_
  refine QT.n ?_
  refine WC.cond rfl (fun h1 => ?_) (fun h1 => ?_)
  · replace H := of_t H h1
    refine WC.seq ?_
    refine WC.seq ?_
    refine WC.region ?_
    refine WL.run 3 tt_ok sg0 rfl rfl trivial ?_
    refine WL.sect 2 2 true tt_ok sg0 rfl rfl (fun _ => trivial) ?_
    refine WL.run 1 tt_ok sg0 rfl rfl ⟨by first | exact id | exact fun h => by rw [h]; rfl | simp_all, trivial⟩ ?_
    refine WL.nil ?_
    refine QT.n ?_
    refine WC.cond rfl (fun h2 => ?_) (fun h2 => ?_)
    · replace H := of_t H h2
      refine WC.seq ?_
      refine WC.region ?_
      refine WL.run 1 tt_ok sg0 rfl rfl trivial ?_
      obtain ⟨x3, hx3, H⟩ := of_bind H
      refine WL.call [] (istrconv_small_0 _ hx3) istrconv_small_f rfl rfl trivial rfl rfl rfl ?_
      refine WL.run 1 tt_ok sg0 rfl rfl trivial ?_
      refine WL.nil ?_
      refine QT.n ?_
      refine WC.ret ?_
      refine QT.r (QT.r ?_)
      cases H
      exact Ends.auto rfl rfl rfl trivial
    replace H := of_f H h2
    exact of_none H
  replace H := of_f H h1
  exact of_none H
theorem istrconv_FormatInt_f : hasFunc Tryd.prog 58 Tryd.f58 := ⟨Tryd.func58, rfl, by kernel_rfl⟩

/-! ### internal/strconv.Itoa -/
theorem istrconv_Itoa_0 (a0 : Int) {r : ByteArray} (H : istrconv_Itoa a0 = some r) : LJ.Spec Tryd.prog 48 [.d (.int .i64 a0)] [] (.d (.str r)) [] := by
  refine LJ.Spec.code Tryd.func48 rfl 5 rfl rfl [] rfl fun w0 F0 S0 B0 => ?_
  unfold istrconv_Itoa at H
  refine WC.seq ?_
  refine WC.region ?_
  refine WL.run 1 tt_ok sg0 rfl rfl trivial ?_
  refine WL.nil ?_
  refine QT.n ?_
  refine WC.seq ?_
  refine WC.region ?_
  refine WL.run 1 tt_ok sg0 rfl rfl trivial ?_
  obtain ⟨x1, hx1, H⟩ := of_bind H
  refine WL.call [] (istrconv_FormatInt_0 _ _ hx1) istrconv_FormatInt_f rfl rfl trivial rfl rfl rfl ?_
  refine WL.run 1 tt_ok sg0 rfl rfl trivial ?_
  refine WL.nil ?_
  refine QT.n ?_
  refine WC.ret ?_
  cases H
  exact Ends.auto rfl rfl rfl trivial
theorem istrconv_Itoa_f : hasFunc Tryd.prog 48 Tryd.f48 := ⟨Tryd.func48, rfl, by kernel_rfl⟩

/-! ### strconv.Itoa -/
theorem strconv_Itoa_0 (a0 : Int) {r : ByteArray} (H : strconv_Itoa a0 = some r) : LJ.Spec Tryd.prog 41 [.d (.int .i64 a0)] [] (.d (.str r)) [] := by
  refine LJ.Spec.code Tryd.func41 rfl 5 rfl rfl [] rfl fun w0 F0 S0 B0 => ?_
  unfold strconv_Itoa at H
  refine WC.seq ?_
  refine WC.region ?_
  refine WL.run 1 tt_ok sg0 rfl rfl trivial ?_
  refine WL.nil ?_
  refine QT.n ?_
  refine WC.seq ?_
  refine WC.region ?_
  refine WL.run 1 tt_ok sg0 rfl rfl trivial ?_
  obtain ⟨x1, hx1, H⟩ := of_bind H
  refine WL.call [] (istrconv_Itoa_0 _ hx1) istrconv_Itoa_f rfl rfl trivial rfl rfl rfl ?_
  refine WL.run 1 tt_ok sg0 rfl rfl trivial ?_
  refine WL.nil ?_
  refine QT.n ?_
  refine WC.ret ?_
  cases H
  exact Ends.auto rfl rfl rfl trivial
theorem strconv_Itoa_f : hasFunc Tryd.prog 41 Tryd.f41 := ⟨Tryd.func41, rfl, by kernel_rfl⟩

/-! ### (*strings.Builder).WriteString -/
theorem strings_Builder_WriteString_0 (a0 : T_strings_Builder) (a1 : ByteArray) {r : Int × Unit × T_strings_Builder} (H : strings_Builder_WriteString a0 a1 = some r) : LJ.Spec Tryd.prog 40 [.ptr 0 0, .d (.str a1)] [(0, .box 60 [.optp a0.addr 0 0, .own 1]), (1, .row 5 1 (rowOf a0.buf))] (.tup [.d (.int .i64 r.1), .d (.nili)]) [(1, .row 5 1 (rowOf r.2.2.buf)), (0, .box 60 [.optp r.2.2.addr 0 0, .own 1])] := by
  refine LJ.Spec.code Tryd.func40 rfl 19 rfl rfl [0] rfl fun w0 F0 S0 B0 => ?_
  unfold strings_Builder_WriteString at H
  refine WC.seq ?_
  refine WC.region ?_
  refine WL.run 2 tt_ok sg0 rfl rfl trivial ?_
  refine WL.nil ?_
  refine QT.n ?_
  refine WC.seq ?_
  refine WC.region ?_
  refine WL.run 1 tt_ok sg0 rfl rfl trivial ?_
  obtain ⟨x1, hx1, H⟩ := of_bind H
  refine WL.call [1] (strings_Builder_copyCheck_s 0 1 rfl _ hx1) strings_Builder_copyCheck_f rfl rfl ⟨rfl, rfl, trivial⟩ rfl rfl rfl ?_
  refine WL.nil ?_
  refine QT.n ?_
  refine WC.seq ?_
  refine WC.region ?_
  refine WL.run 6 tt_ok sg0 rfl rfl trivial ?_
  obtain ⟨g2, H⟩ := of_need H
  refine WL.apps tt_ok eb_ok rfl rfl rfl (apps_ok (nCap_ok g2)) ?_
  refine WL.row 1 (rowOf (x1.buf ++ a1)) rfl (rowOf_append _ _).symm rfl ?_
  refine WL.run 2 tt_ok sg0 rfl rfl trivial ?_
  refine WL.eff 0 tt_ok et_ok eg0 rfl rfl rfl trivial ?_
  refine WL.nil ?_
  refine QT.n ?_
  refine WC.seq ?_
  refine WC.region ?_
  refine WL.run 4 tt_ok sg0 rfl rfl trivial ?_
  refine WL.nil ?_
  refine QT.n ?_
  refine WC.ret ?_
  cases H
  exact Ends.auto rfl rfl rfl ⟨rfl, rfl, trivial⟩
theorem strings_Builder_WriteString_s (n0 n1 : Nat) (hn : nodupB [n0, n1] = true) (a0 : T_strings_Builder) (a1 : ByteArray) {r : Int × Unit × T_strings_Builder} (H : strings_Builder_WriteString a0 a1 = some r) : LJ.Spec Tryd.prog 40 [.ptr n0 0, .d (.str a1)] [(n0, .box 60 [.optp a0.addr n0 0, .own n1]), (n1, .row 5 1 (rowOf a0.buf))] (.tup [.d (.int .i64 r.1), .d (.nili)]) [(n1, .row 5 1 (rowOf r.2.2.buf)), (n0, .box 60 [.optp r.2.2.addr n0 0, .own n1])] :=
  Spec.names [n0, n1] hn rfl rfl (strings_Builder_WriteString_0 a0 a1 H)
theorem strings_Builder_WriteString_f : hasFunc Tryd.prog 40 Tryd.f40 := ⟨Tryd.func40, rfl, by kernel_rfl⟩

/-! ### (*strings.Builder).String -/
def ρb : Go.Shelf.Ren := ⟨fun n => cond (Nat.beq n 169) 42 0, fun n => cond (Nat.beq n 127) 68 (cond (Nat.beq n 72) 60 (cond (Nat.beq n 70) 57 (cond (Nat.beq n 37) 58 (cond (Nat.beq n 9) 9 (cond (Nat.beq n 5) 5 (cond (Nat.beq n 3) 3 (cond (Nat.beq n 0) 0 (0)))))))), fun _ => 0⟩
set_option maxRecDepth 100000 in
theorem lays169 : Go.Proofs.Lays.n169 Tryd.prog ρb := by
  constructor <;> first | kernel_rfl | (intro w; kernel_rfl) | (intro w; rfl)
theorem ext169 : Go.Proofs.Builder.Extra Tryd.prog ρb := by
  constructor <;> first | kernel_rfl | (intro w; kernel_rfl) | (intro w; rfl) | decide | (constructor <;> kernel_rfl)
theorem strings_Builder_String_0 (a0 : T_strings_Builder) {r : ByteArray} (H : strings_Builder_String a0 = some r) : LJ.Spec Tryd.prog 42 [.ptr 0 0] [(0, .box 60 [.optp a0.addr 0 0, .own 1]), (1, .row 5 1 (rowOf a0.buf))] (.d (.str r)) [] := by
  unfold strings_Builder_String at H
  obtain ⟨g1, H⟩ := of_need H
  cases H
  exact Spec.bldString lays169 ext169 (by rw [iLt_iff] at g1; omega)
theorem strings_Builder_String_s (n0 n1 : Nat) (hn : nodupB [n0, n1] = true) (a0 : T_strings_Builder) {r : ByteArray} (H : strings_Builder_String a0 = some r) : LJ.Spec Tryd.prog 42 [.ptr n0 0] [(n0, .box 60 [.optp a0.addr n0 0, .own n1]), (n1, .row 5 1 (rowOf a0.buf))] (.d (.str r)) [] :=
  Spec.names [n0, n1] hn rfl rfl (strings_Builder_String_0 a0 H)
theorem strings_Builder_String_f : hasFunc Tryd.prog 42 Tryd.f42 := ⟨Tryd.func42, rfl, by kernel_rfl⟩

/-! ### logjam/bits.Text -/
theorem bits_Text_0 (a0 : Int) {r : ByteArray} (H : bits_Text a0 = some r) : LJ.Spec Tryd.prog 30 [.d (.int .u64 a0)] [] (.d (.str r)) [] := by
  refine LJ.Spec.code Tryd.func30 rfl 24 rfl rfl [] rfl fun w0 F0 S0 B0 => ?_
  unfold bits_Text at H
  refine WC.seq ?_
  refine WC.region ?_
  refine WL.run 1 tt_ok sg0 rfl rfl trivial ?_
  refine WL.nil ?_
  refine QT.n ?_
  refine WC.seq ?_
  refine WC.seq ?_
  refine WC.region ?_
  refine WL.run 2 tt_ok sg0 rfl rfl trivial ?_
  refine WL.nil ?_
  refine QT.n ?_
  refine WC.cond rfl (fun h1 => ?_) (fun h1 => ?_)
  · replace H := of_t H h1
    refine WC.seq ?_
    refine WC.region ?_
    refine WL.run 1 tt_ok sg0 rfl rfl trivial ?_
    refine WL.nil ?_
    refine QT.n ?_
    refine WC.ret ?_
    refine QT.r ?_
    cases H
    exact Ends.auto rfl rfl rfl trivial
  replace H := of_f H h1
  refine WC.skip ?_
  refine QT.n ?_
  refine WC.seq ?_
  refine WC.region ?_
  refine WL.alloc 103 tt_ok rfl rfl rfl ?_
  refine WL.nilP 103 0 103 rfl ?_
  refine WL.nilF 103 1 4031 5 1 rfl ?_
  refine WL.row 4031 (rowOf ByteArray.empty) rfl rfl rfl ?_
  refine WL.nil ?_
  refine QT.n ?_
  refine WC.seq ?_
  refine WC.seq ?_
  refine WC.region ?_
  refine WL.run 1 tt_ok sg0 rfl rfl trivial ?_
  obtain ⟨x2, hx2, H⟩ := of_bind H
  refine WL.call [] (bits_Set_List_0 _ hx2) bits_Set_List_f rfl rfl trivial rfl rfl rfl ?_
  refine WL.run 2 tt_ok sg0 rfl rfl trivial ?_
  refine WL.nil ?_
  refine QT.n ?_
  refine WC.block ?_
  refine WC.loop (ι := {x : Nat × (Int × Bool × ByteArray) // bits_Text_l4 x2 x.1 x.2 = some r}) (fun x => [(3, .ptr 103 0), (9, .d (slT enc_i64 x2)), (10, .d (.int .i64 (x2.length : Int))), (11, .d (.int .i64 x.1.2.1))]) (fun x => [(103, .box 60 [.optp x.1.2.2.1 103 0, .own 4031]), (4031, .row 5 1 (rowOf x.1.2.2.2))]) (fun x => x.1.1) ⟨(fuel, (0, false, ByteArray.empty)), H⟩ (Less.mk' ⟨rfl, rfl, rfl, rfl, trivial⟩ ⟨rfl, rfl, trivial⟩) fun x => ?_
  obtain ⟨⟨k4, s3⟩, H⟩ := x
  rcases k4 with _ | k4
  · exact of_none H
  rw [bits_Text_l4] at H
  refine WC.seq ?_
  refine WC.region ?_
  refine WL.run 1 tt_ok sg0 rfl rfl trivial ?_
  refine WL.nil ?_
  refine QT.n ?_
  refine WC.seq ?_
  refine WC.cond rfl (fun h5 => ?_) (fun h5 => ?_)
  · replace H := of_t H h5
    refine WC.skip ?_
    refine QT.n ?_
    refine WC.seq ?_
    refine WC.block ?_
    refine WC.seq ?_
    refine WC.region ?_
    obtain ⟨g6, H⟩ := of_need H
    refine WL.run 5 tt_ok sg0 rfl rfl ⟨⟨(nIn_ok g6).1, (nIn_ok g6).2, rfl⟩, trivial⟩ ?_
    refine WL.nil ?_
    refine QT.n ?_
    refine WC.seq ?_
    refine WC.seq ?_
    refine WC.region ?_
    refine WL.run 2 tt_ok sg0 rfl rfl trivial ?_
    refine WL.nil ?_
    refine QT.n ?_
    refine WC.cond rfl (fun h7 => ?_) (fun h7 => ?_)
    · replace H := of_t H h7
      refine WC.region ?_
      obtain ⟨x8, hx8, H⟩ := of_bind H
      refine WL.call [4031] (strings_Builder_WriteByte_s 103 4031 rfl _ _ hx8) strings_Builder_WriteByte_f rfl rfl ⟨rfl, rfl, trivial⟩ rfl rfl rfl ?_
      refine WL.nil ?_
      refine QT.n ?_
      refine WC.region ?_
      refine WL.run 1 tt_ok sg0 rfl rfl trivial ?_
      obtain ⟨x9, hx9, H⟩ := of_bind H
      refine WL.call [] (strconv_Itoa_0 _ hx9) strconv_Itoa_f rfl rfl trivial rfl rfl rfl ?_
      obtain ⟨x10, hx10, H⟩ := of_bind H
      refine WL.call [4031] (strings_Builder_WriteString_s 103 4031 rfl _ _ hx10) strings_Builder_WriteString_f rfl rfl ⟨rfl, rfl, trivial⟩ rfl rfl rfl ?_
      refine WL.nil ?_
      refine QB.n (QT.n ?_)
      refine WC.region ?_
      refine WL.run 2 tt_ok sg0 rfl rfl trivial ?_
      refine WL.nil ?_
      refine QT.n ?_
      exact ⟨⟨(k4, (IntKind.i64.wrap (s3.1 + 1), x10.2.2.addr, x10.2.2.buf)), H⟩, Nat.lt_succ_self _, Less.mk' ⟨rfl, rfl, rfl, rfl, trivial⟩ ⟨rfl, rfl, trivial⟩⟩
    replace H := of_f H h7
    refine WC.skip ?_
    refine QT.n ?_
    refine WC.region ?_
    refine WL.run 1 tt_ok sg0 rfl rfl trivial ?_
    obtain ⟨x11, hx11, H⟩ := of_bind H
    refine WL.call [] (strconv_Itoa_0 _ hx11) strconv_Itoa_f rfl rfl trivial rfl rfl rfl ?_
    obtain ⟨x12, hx12, H⟩ := of_bind H
    refine WL.call [4031] (strings_Builder_WriteString_s 103 4031 rfl _ _ hx12) strings_Builder_WriteString_f rfl rfl ⟨rfl, rfl, trivial⟩ rfl rfl rfl ?_
    refine WL.nil ?_
    refine QB.n (QT.n ?_)
    refine WC.region ?_
    refine WL.run 2 tt_ok sg0 rfl rfl trivial ?_
    refine WL.nil ?_
    refine QT.n ?_
    exact ⟨⟨(k4, (IntKind.i64.wrap (s3.1 + 1), x12.2.2.addr, x12.2.2.buf)), H⟩, Nat.lt_succ_self _, Less.mk' ⟨rfl, rfl, rfl, rfl, trivial⟩ ⟨rfl, rfl, trivial⟩⟩
  replace H := of_f H h5
  refine WC.exit ?_
  refine QT.x (QT.x (QB.hit (QT.n ?_)))
  refine WC.seq ?_
  refine WC.region ?_
  obtain ⟨x13, hx13, H⟩ := of_bind H
  refine WL.call [] (strings_Builder_String_s 103 4031 rfl _ hx13) strings_Builder_String_f rfl rfl ⟨rfl, rfl, trivial⟩ rfl rfl rfl ?_
  refine WL.run 1 tt_ok sg0 rfl rfl trivial ?_
  refine WL.nil ?_
  refine QT.n ?_
  refine WC.ret ?_
  cases H
  exact Ends.auto rfl rfl rfl trivial
theorem bits_Text_f : hasFunc Tryd.prog 30 Tryd.f30 := ⟨Tryd.func30, rfl, by kernel_rfl⟩

/-! ### logjam/logjamlaw02.lives -/
theorem law02_lives_0  {r : Bool} (H : law02_lives = some r) : LJ.Spec Tryd.prog 11 [] [] (.d (.bool r)) [] := by
  refine LJ.Spec.code Tryd.func11 rfl 32 rfl rfl [] rfl fun w0 F0 S0 B0 => ?_
  unfold law02_lives at H
  refine WC.seq ?_
  refine WC.region ?_
  refine WL.run 1 tt_ok sg0 rfl rfl trivial ?_
  refine WL.nil ?_
  refine QT.n ?_
  refine WC.seq ?_
  refine WC.region ?_
  refine WL.eff 103 tt_ok et_ok eg0 rfl rfl rfl trivial ?_
  refine WL.freezeT 103 enc_i64 ([0, 5, 63, 64, (-1)] : List Int) rfl rfl rfl rfl ?_
  obtain ⟨x1, hx1, H⟩ := of_bind H
  refine WL.call [] (bits_Of_0 _ hx1) bits_Of_f rfl rfl trivial rfl rfl rfl ?_
  refine WL.run 1 tt_ok sg0 rfl rfl trivial ?_
  refine WL.nil ?_
  refine QT.n ?_
  refine WC.seq ?_
  refine WC.region ?_
  refine WL.run 1 tt_ok sg0 rfl rfl trivial ?_
  obtain ⟨x2, hx2, H⟩ := of_bind H
  refine WL.call [] (bits_Set_List_0 _ hx2) bits_Set_List_f rfl rfl trivial rfl rfl rfl ?_
  refine WL.run 1 tt_ok sg0 rfl rfl trivial ?_
  refine WL.nil ?_
  refine QT.n ?_
  refine WC.seq ?_
  refine WC.region ?_
  refine WL.run 4 tt_ok sg0 rfl rfl trivial ?_
  obtain ⟨g3, H⟩ := of_needS H
  refine WL.sect 4 3 true tt_ok sg0 rfl rfl (fun hb => ⟨⟨(nIn_ok (g3 hb)).1, (nIn_ok (g3 hb)).2, rfl⟩, trivial⟩) ?_
  refine WL.run 2 tt_ok sg0 rfl rfl ⟨by first | exact id | exact fun h => by rw [h]; rfl | simp_all, trivial⟩ ?_
  obtain ⟨g4, H⟩ := of_needS H
  refine WL.sect 4 9 true tt_ok sg0 rfl rfl (fun hb => ⟨⟨(nIn_ok (g4 hb)).1, (nIn_ok (g4 hb)).2, rfl⟩, trivial⟩) ?_
  refine WL.run 2 tt_ok sg0 rfl rfl ⟨by first | exact id | exact fun h => by rw [h]; rfl | simp_all, trivial⟩ ?_
  obtain ⟨x5, hx5, H⟩ := of_bind H
  refine WL.sect 3 15 true tt_ok [PSig.at' bits_Set_Count_f ((((iEq (x2.length : Int) 3) && (iEq (x2.getD (1 : Int).toNat default) 5)) && (iEq (x2.getD (2 : Int).toNat default) 63)) = true) rfl (fun hb => bits_Set_Count_0 _ (of_t hx5 hb))] rfl rfl (fun hb => ⟨⟨hb, rfl⟩, trivial⟩) ?_
  refine WL.run 2 tt_ok sg0 rfl rfl ⟨by first | exact id | exact fun h => by rw [h]; rfl | simp_all, trivial⟩ ?_
  obtain ⟨x6, hx6, H⟩ := of_bind H
  refine WL.sect 3 20 true tt_ok [PSig.at' bits_Text_f (((((iEq (x2.length : Int) 3) && (iEq (x2.getD (1 : Int).toNat default) 5)) && (iEq (x2.getD (2 : Int).toNat default) 63)) && (iEq x5 3)) = true) rfl (fun hb => bits_Text_0 _ (of_t hx6 hb))] rfl rfl (fun hb => ⟨⟨hb, rfl⟩, trivial⟩) ?_
  refine WL.run 2 tt_ok sg0 rfl rfl ⟨by first | exact id | exact fun h => by rw [h]; rfl | simp_all, trivial⟩ ?_
  refine WL.nil ?_
  refine QT.n ?_
  refine WC.ret ?_
  cases H
  exact Ends.auto rfl rfl rfl trivial
theorem law02_lives_f : hasFunc Tryd.prog 11 Tryd.f11 := ⟨Tryd.func11, rfl, by kernel_rfl⟩

/-! ### logjam/logjamlaw02.BitsMoves -/
theorem law02_BitsMoves_0 (a0 : Int) (a1 : Int) (a2 : Int) {r : Bool} (H : law02_BitsMoves a0 a1 a2 = some r) : LJ.Spec Tryd.prog 3 [.d (.int .u64 a0), .d (.int .i64 a1), .d (.int .i64 a2)] [] (.d (.bool r)) [] := by
  refine LJ.Spec.code Tryd.func3 rfl 50 rfl rfl [] rfl fun w0 F0 S0 B0 => ?_
  unfold law02_BitsMoves at H
  refine WC.seq ?_
  refine WC.region ?_
  refine WL.run 1 tt_ok sg0 rfl rfl trivial ?_
  refine WL.nil ?_
  refine QT.n ?_
  refine WC.seq ?_
  refine WC.region ?_
  refine WL.run 2 tt_ok sg0 rfl rfl trivial ?_
  refine WL.nil ?_
  refine QT.n ?_
  refine WC.seq ?_
  refine WC.region ?_
  refine WL.run 2 tt_ok sg0 rfl rfl trivial ?_
  obtain ⟨x1, hx1, H⟩ := of_bind H
  refine WL.call [] (bits_Set_Up_0 _ _ hx1) bits_Set_Up_f rfl rfl trivial rfl rfl rfl ?_
  refine WL.run 1 tt_ok sg0 rfl rfl trivial ?_
  refine WL.nil ?_
  refine QT.n ?_
  refine WC.seq ?_
  refine WC.seq ?_
  refine WC.region ?_
  refine WL.run 3 tt_ok sg0 rfl rfl trivial ?_
  obtain ⟨x2, hx2, H⟩ := of_bind H
  refine WL.call [] (ref02_Up_0 _ _ hx2) ref02_Up_f rfl rfl trivial rfl rfl rfl ?_
  refine WL.run 2 tt_ok sg0 rfl rfl trivial ?_
  refine WL.split (g := 18) rfl (fun h3 => ?_) (fun h3 => ?_)
  · replace H := of_t H h3
    refine WL.gskips 5 5 false 18 rfl rfl rfl rfl ?_
    refine WL.pickT rfl rfl rfl rfl rfl rfl ?_
    refine WL.run 1 tt_ok sg0 rfl rfl trivial ?_
    refine WL.gskips 13 12 false 25 rfl rfl rfl rfl ?_
    refine WL.pickT rfl rfl rfl rfl rfl rfl ?_
    refine WL.nil ?_
    refine QT.n ?_
    refine WC.cond rfl (fun h => ?_) (fun h => absurd h (by decide))
    refine WC.seq ?_
    refine WC.region ?_
    refine WL.run 1 tt_ok sg0 rfl rfl trivial ?_
    refine WL.nil ?_
    refine QT.n ?_
    refine WC.ret ?_
    refine QT.r ?_
    cases H
    exact Ends.auto rfl rfl rfl trivial
  · replace H := of_f H h3
    refine WL.grun 1 5 false 18 tt_ok sg0 rfl rfl rfl rfl trivial ?_
    obtain ⟨x4, hx4, H⟩ := of_bind H
    refine WL.gcall [] (bits_Set_Count_0 _ hx4) bits_Set_Count_f rfl rfl trivial rfl rfl rfl rfl rfl rfl ?_
    refine WL.grun 1 5 false 18 tt_ok sg0 rfl rfl rfl rfl trivial ?_
    obtain ⟨x5, hx5, H⟩ := of_bind H
    refine WL.gcall [] (bits_Set_Count_0 _ hx5) bits_Set_Count_f rfl rfl trivial rfl rfl rfl rfl rfl rfl ?_
    refine WL.grun 1 5 false 18 tt_ok sg0 rfl rfl rfl rfl trivial ?_
    refine WL.pickF rfl rfl rfl rfl rfl rfl ?_
    refine WL.run 1 tt_ok sg0 rfl rfl trivial ?_
    refine WL.split (g := 25) rfl (fun h6 => ?_) (fun h6 => ?_)
    · replace H := of_t H h6
      refine WL.gskips 13 12 false 25 rfl rfl rfl rfl ?_
      refine WL.pickT rfl rfl rfl rfl rfl rfl ?_
      refine WL.nil ?_
      refine QT.n ?_
      refine WC.cond rfl (fun h => ?_) (fun h => absurd h (by decide))
      refine WC.seq ?_
      refine WC.region ?_
      refine WL.run 1 tt_ok sg0 rfl rfl trivial ?_
      refine WL.nil ?_
      refine QT.n ?_
      refine WC.ret ?_
      refine QT.r ?_
      cases H
      exact Ends.auto rfl rfl rfl trivial
    · replace H := of_f H h6
      refine WL.grun 2 12 false 25 tt_ok sg0 rfl rfl rfl rfl trivial ?_
      obtain ⟨x7, hx7, H⟩ := of_bind H
      refine WL.gcall [] (bits_Set_Up_0 _ _ hx7) bits_Set_Up_f rfl rfl trivial rfl rfl rfl rfl rfl rfl ?_
      refine WL.grun 1 12 false 25 tt_ok sg0 rfl rfl rfl rfl trivial ?_
      obtain ⟨x8, hx8, H⟩ := of_bind H
      refine WL.gcall [] (bits_Set_Up_0 _ _ hx8) bits_Set_Up_f rfl rfl trivial rfl rfl rfl rfl rfl rfl ?_
      refine WL.grun 6 12 false 25 tt_ok sg0 rfl rfl rfl rfl trivial ?_
      obtain ⟨x9, hx9, H⟩ := of_bind H
      refine WL.gcall [] (bits_Set_Up_0 _ _ hx9) bits_Set_Up_f rfl rfl trivial rfl rfl rfl rfl rfl rfl ?_
      refine WL.grun 1 12 false 25 tt_ok sg0 rfl rfl rfl rfl trivial ?_
      refine WL.pickF rfl rfl rfl rfl rfl rfl ?_
      refine WL.nil ?_
      refine QT.n ?_
      refine WC.cond rfl (fun h10 => ?_) (fun h10 => ?_)
      · replace H := of_t H h10
        refine WC.seq ?_
        refine WC.region ?_
        refine WL.run 1 tt_ok sg0 rfl rfl trivial ?_
        refine WL.nil ?_
        refine QT.n ?_
        refine WC.ret ?_
        refine QT.r ?_
        cases H
        exact Ends.auto rfl rfl rfl trivial
      replace H := of_f H h10
      refine WC.skip ?_
      refine QT.n ?_
      refine WC.seq ?_
      refine WC.region ?_
      refine WL.run 4 tt_ok sg0 rfl rfl trivial ?_
      obtain ⟨x11, hx11, H⟩ := of_bind H
      refine WL.call [] (bits_Set_Up_0 _ _ hx11) bits_Set_Up_f rfl rfl trivial rfl rfl rfl ?_
      refine WL.run 3 tt_ok sg0 rfl rfl trivial ?_
      obtain ⟨x12, hx12, H⟩ := of_bind H
      refine WL.sect 1 7 true tt_ok [PSig.at' law02_lives_f ((iEq x11 a0) = true) rfl (fun hb => law02_lives_0  (of_t hx12 hb))] rfl rfl (fun hb => ⟨⟨hb, rfl⟩, trivial⟩) ?_
      refine WL.run 2 tt_ok sg0 rfl rfl ⟨by first | exact id | exact fun h => by rw [h]; rfl | simp_all, trivial⟩ ?_
      refine WL.nil ?_
      refine QT.n ?_
      refine WC.ret ?_
      cases H
      exact Ends.auto rfl rfl rfl trivial
theorem law02_BitsMoves_f : hasFunc Tryd.prog 3 Tryd.f3 := ⟨Tryd.func3, rfl, by kernel_rfl⟩

/-! ### logjam/bits.All -/
theorem bits_All_0 (a0 : Int) {r : Int} (H : bits_All a0 = some r) : LJ.Spec Tryd.prog 12 [.d (.int .i64 a0)] [] (.d (.int .u64 r)) [] := by
  refine LJ.Spec.code Tryd.func12 rfl 10 rfl rfl [] rfl fun w0 F0 S0 B0 => ?_
  unfold bits_All at H
  refine WC.seq ?_
  refine WC.region ?_
  refine WL.run 1 tt_ok sg0 rfl rfl trivial ?_
  refine WL.nil ?_
  refine QT.n ?_
  refine WC.seq ?_
  refine WC.seq ?_
  refine WC.region ?_
  refine WL.run 2 tt_ok sg0 rfl rfl trivial ?_
  refine WL.nil ?_
  refine QT.n ?_
  refine WC.cond rfl (fun h1 => ?_) (fun h1 => ?_)
  · replace H := of_t H h1
    refine WC.seq ?_
    refine WC.region ?_
    refine WL.run 1 tt_ok sg0 rfl rfl trivial ?_
    refine WL.nil ?_
    refine QT.n ?_
    refine WC.ret ?_
    refine QT.r ?_
    cases H
    exact Ends.auto rfl rfl rfl trivial
  replace H := of_f H h1
  refine WC.skip ?_
  refine QT.n ?_
  refine WC.seq ?_
  refine WC.seq ?_
  refine WC.region ?_
  refine WL.run 2 tt_ok sg0 rfl rfl trivial ?_
  refine WL.nil ?_
  refine QT.n ?_
  refine WC.cond rfl (fun h2 => ?_) (fun h2 => ?_)
  · replace H := of_t H h2
    refine WC.seq ?_
    refine WC.region ?_
    refine WL.run 1 tt_ok sg0 rfl rfl trivial ?_
    refine WL.nil ?_
    refine QT.n ?_
    refine WC.ret ?_
    refine QT.r ?_
    cases H
    exact Ends.auto rfl rfl rfl trivial
  replace H := of_f H h2
  refine WC.skip ?_
  refine QT.n ?_
  refine WC.seq ?_
  refine WC.region ?_
  obtain ⟨g3, H⟩ := of_need H
  refine WL.run 4 tt_ok sg0 rfl rfl ⟨(nNn_ok g3), trivial⟩ ?_
  refine WL.nil ?_
  refine QT.n ?_
  refine WC.ret ?_
  cases H
  exact Ends.auto rfl rfl rfl trivial
theorem bits_All_f : hasFunc Tryd.prog 12 Tryd.f12 := ⟨Tryd.func12, rfl, by kernel_rfl⟩

/-! ### (logjam/bits.Set).Has -/
theorem bits_Set_Has_0 (a0 : Int) (a1 : Int) {r : Bool} (H : bits_Set_Has a0 a1 = some r) : LJ.Spec Tryd.prog 13 [.d (.int .u64 a0), .d (.int .i64 a1)] [] (.d (.bool r)) [] := by
  refine LJ.Spec.code Tryd.func13 rfl 10 rfl rfl [] rfl fun w0 F0 S0 B0 => ?_
  unfold bits_Set_Has at H
  refine WC.seq ?_
  refine WC.region ?_
  refine WL.run 1 tt_ok sg0 rfl rfl trivial ?_
  refine WL.nil ?_
  refine QT.n ?_
  refine WC.seq ?_
  refine WC.region ?_
  refine WL.run 2 tt_ok sg0 rfl rfl trivial ?_
  obtain ⟨x1, hx1, H⟩ := of_bind H
  refine WL.call [] (bits_one_0 _ hx1) bits_one_f rfl rfl trivial rfl rfl rfl ?_
  refine WL.run 3 tt_ok sg0 rfl rfl trivial ?_
  refine WL.nil ?_
  refine QT.n ?_
  refine WC.ret ?_
  cases H
  exact Ends.auto rfl rfl rfl trivial
theorem bits_Set_Has_f : hasFunc Tryd.prog 13 Tryd.f13 := ⟨Tryd.func13, rfl, by kernel_rfl⟩

/-! ### logjam/logjamlaw02.BitsBelow -/
theorem law02_BitsBelow_0 (a0 : Int) (a1 : Int) {r : Bool} (H : law02_BitsBelow a0 a1 = some r) : LJ.Spec Tryd.prog 4 [.d (.int .i64 a0), .d (.int .i64 a1)] [] (.d (.bool r)) [] := by
  refine LJ.Spec.code Tryd.func4 rfl 34 rfl rfl [] rfl fun w0 F0 S0 B0 => ?_
  unfold law02_BitsBelow at H
  refine WC.seq ?_
  refine WC.region ?_
  refine WL.run 1 tt_ok sg0 rfl rfl trivial ?_
  refine WL.nil ?_
  refine QT.n ?_
  refine WC.seq ?_
  refine WC.region ?_
  refine WL.run 1 tt_ok sg0 rfl rfl trivial ?_
  obtain ⟨x1, hx1, H⟩ := of_bind H
  refine WL.call [] (bits_All_0 _ hx1) bits_All_f rfl rfl trivial rfl rfl rfl ?_
  refine WL.run 1 tt_ok sg0 rfl rfl trivial ?_
  refine WL.nil ?_
  refine QT.n ?_
  refine WC.seq ?_
  refine WC.region ?_
  refine WL.run 2 tt_ok sg0 rfl rfl trivial ?_
  obtain ⟨x2, hx2, H⟩ := of_bind H
  refine WL.call [] (bits_Set_Has_0 _ _ hx2) bits_Set_Has_f rfl rfl trivial rfl rfl rfl ?_
  refine WL.run 3 tt_ok sg0 rfl rfl trivial ?_
  refine WL.sect 2 5 true tt_ok sg0 rfl rfl (fun _ => trivial) ?_
  refine WL.run 2 tt_ok sg0 rfl rfl ⟨by first | exact id | exact fun h => by rw [h]; rfl | simp_all, trivial⟩ ?_
  refine WL.sect 3 9 true tt_ok sg0 rfl rfl (fun _ => trivial) ?_
  refine WL.run 3 tt_ok sg0 rfl rfl ⟨by first | exact id | exact fun h => by rw [h]; rfl | simp_all, trivial⟩ ?_
  refine WL.split (g := 23) rfl (fun h3 => ?_) (fun h3 => ?_)
  · replace H := of_t H h3
    refine WL.grun 1 15 true 23 tt_ok sg0 rfl rfl rfl rfl trivial ?_
    obtain ⟨x4, hx4, H⟩ := of_bind H
    refine WL.gcall [] (bits_Set_Count_0 _ hx4) bits_Set_Count_f rfl rfl trivial rfl rfl rfl rfl rfl rfl ?_
    refine WL.grun 1 15 true 23 tt_ok sg0 rfl rfl rfl rfl trivial ?_
    refine WL.gyv (LJ.Y.min rfl rfl rfl) rfl rfl rfl rfl rfl rfl ?_
    refine WL.gyv (LJ.Y.max rfl rfl rfl) rfl rfl rfl rfl rfl rfl ?_
    refine WL.grun 1 15 true 23 tt_ok sg0 rfl rfl rfl rfl trivial ?_
    refine WL.pickT rfl rfl rfl rfl rfl rfl ?_
    refine WL.run 1 tt_ok sg0 rfl rfl trivial ?_
    obtain ⟨x5, hx5, H⟩ := of_bind H
    refine WL.sect 1 23 true tt_ok [PSig.at' law02_lives_f ((iEq x4 (iMax (0 : Int) (iMin a0 (64 : Int)))) = true) rfl (fun hb => law02_lives_0  (of_t hx5 hb))] rfl rfl (fun hb => ⟨⟨hb, rfl⟩, trivial⟩) ?_
    refine WL.run 2 tt_ok sg0 rfl rfl ⟨by first | exact id | exact fun h => by rw [h]; rfl | simp_all, trivial⟩ ?_
    refine WL.nil ?_
    refine QT.n ?_
    refine WC.ret ?_
    cases H
    exact Ends.auto rfl rfl rfl trivial
  · replace H := of_f H h3
    refine WL.gskips 6 15 true 23 rfl rfl rfl rfl ?_
    refine WL.pickF rfl rfl rfl rfl rfl rfl ?_
    refine WL.run 1 tt_ok sg0 rfl rfl trivial ?_
    refine WL.gskips 1 23 true 31 rfl rfl rfl rfl ?_
    refine WL.pickF rfl rfl rfl rfl rfl rfl ?_
    refine WL.run 1 tt_ok sg0 rfl rfl trivial ?_
    refine WL.nil ?_
    refine QT.n ?_
    refine WC.ret ?_
    cases H
    exact Ends.auto rfl rfl rfl trivial
theorem law02_BitsBelow_f : hasFunc Tryd.prog 4 Tryd.f4 := ⟨Tryd.func4, rfl, by kernel_rfl⟩

/-! ### (logjam/bits.Set).Pick -/
theorem bits_Set_Pick_0 (a0 : Int) (a1 : Int) {r : Int} (H : bits_Set_Pick a0 a1 = some r) : LJ.Spec Tryd.prog 16 [.d (.int .u64 a0), .d (.int .i64 a1)] [] (.d (.int .i64 r)) [] := by
  refine LJ.Spec.code Tryd.func16 rfl 23 rfl rfl [] rfl fun w0 F0 S0 B0 => ?_
  unfold bits_Set_Pick at H
  refine WC.seq ?_
  refine WC.region ?_
  refine WL.run 1 tt_ok sg0 rfl rfl trivial ?_
  refine WL.nil ?_
  refine QT.n ?_
  refine WC.seq ?_
  refine WC.seq ?_
  refine WC.region ?_
  refine WL.run 3 tt_ok sg0 rfl rfl trivial ?_
  obtain ⟨x1, hx1, H⟩ := of_bind H
  refine WL.sect 4 2 false tt_ok [PSig.at' bits_Set_Count_f ((!(iLt a1 0)) = true) rfl (fun hb => bits_Set_Count_0 _ (of_t hx1 hb))] rfl rfl (fun hb => ⟨⟨hb, rfl⟩, trivial⟩) ?_
  refine WL.run 1 tt_ok sg0 rfl rfl ⟨by first | exact id | exact fun h => by rw [h]; rfl | simp_all, trivial⟩ ?_
  refine WL.nil ?_
  refine QT.n ?_
  refine WC.cond rfl (fun h2 => ?_) (fun h2 => ?_)
  · replace H := of_t H h2
    refine WC.seq ?_
    refine WC.region ?_
    refine WL.run 1 tt_ok sg0 rfl rfl trivial ?_
    refine WL.nil ?_
    refine QT.n ?_
    refine WC.ret ?_
    refine QT.r ?_
    cases H
    exact Ends.auto rfl rfl rfl trivial
  replace H := of_f H h2
  refine WC.skip ?_
  refine QT.n ?_
  refine WC.seq ?_
  refine WC.seq ?_
  refine WC.region ?_
  refine WL.run 2 tt_ok sg0 rfl rfl trivial ?_
  refine WL.nil ?_
  refine QT.n ?_
  refine WC.block ?_
  refine WC.loop (ι := {x : Nat × (Int × Int) // bits_Set_Pick_l4 a1 x.1 x.2 = some r}) (fun x => [(0, .d (.int .u64 x.1.2.1)), (13, .d (.int .i64 a1)), (14, .d (.int .i64 x.1.2.2))]) (fun x => []) (fun x => x.1.1) ⟨(fuel, (a0, 0)), H⟩ (Less.mk' ⟨rfl, rfl, rfl, trivial⟩ trivial) fun x => ?_
  obtain ⟨⟨k4, s3⟩, H⟩ := x
  rcases k4 with _ | k4
  · exact of_none H
  rw [bits_Set_Pick_l4] at H
  refine WC.seq ?_
  refine WC.region ?_
  refine WL.run 1 tt_ok sg0 rfl rfl trivial ?_
  refine WL.nil ?_
  refine QT.n ?_
  refine WC.seq ?_
  refine WC.cond rfl (fun h5 => ?_) (fun h5 => ?_)
  · replace H := of_t H h5
    refine WC.skip ?_
    refine QT.n ?_
    refine WC.seq ?_
    refine WC.block ?_
    refine WC.region ?_
    refine WL.run 5 tt_ok sg0 rfl rfl trivial ?_
    refine WL.nil ?_
    refine QB.n (QT.n ?_)
    refine WC.region ?_
    refine WL.run 2 tt_ok sg0 rfl rfl trivial ?_
    refine WL.nil ?_
    refine QT.n ?_
    exact ⟨⟨(k4, (Go.bits .and .u64 s3.1 (IntKind.u64.wrap (s3.1 - 1)), IntKind.i64.wrap (s3.2 + 1))), H⟩, Nat.lt_succ_self _, Less.mk' ⟨rfl, rfl, rfl, trivial⟩ trivial⟩
  replace H := of_f H h5
  refine WC.exit ?_
  refine QT.x (QT.x (QB.hit (QT.n ?_)))
  refine WC.seq ?_
  refine WC.region ?_
  refine WL.run 1 tt_ok sg0 rfl rfl trivial ?_
  obtain ⟨x6, hx6, H⟩ := of_bind H
  refine WL.call [] (bits_Set_First_0 _ hx6) bits_Set_First_f rfl rfl trivial rfl rfl rfl ?_
  refine WL.run 1 tt_ok sg0 rfl rfl trivial ?_
  refine WL.nil ?_
  refine QT.n ?_
  refine WC.ret ?_
  cases H
  exact Ends.auto rfl rfl rfl trivial
theorem bits_Set_Pick_f : hasFunc Tryd.prog 16 Tryd.f16 := ⟨Tryd.func16, rfl, by kernel_rfl⟩

/-! ### (logjam/bits.Set).Next -/
theorem bits_Set_Next_0 (a0 : Int) (a1 : Int) {r : Int} (H : bits_Set_Next a0 a1 = some r) : LJ.Spec Tryd.prog 17 [.d (.int .u64 a0), .d (.int .i64 a1)] [] (.d (.int .i64 r)) [] := by
  refine LJ.Spec.code Tryd.func17 rfl 19 rfl rfl [] rfl fun w0 F0 S0 B0 => ?_
  unfold bits_Set_Next at H
  refine WC.seq ?_
  refine WC.region ?_
  refine WL.run 1 tt_ok sg0 rfl rfl trivial ?_
  refine WL.nil ?_
  refine QT.n ?_
  refine WC.seq ?_
  refine WC.seq ?_
  refine WC.region ?_
  refine WL.run 2 tt_ok sg0 rfl rfl trivial ?_
  refine WL.nil ?_
  refine QT.n ?_
  refine WC.cond rfl (fun h1 => ?_) (fun h1 => ?_)
  · replace H := of_t H h1
    refine WC.seq ?_
    refine WC.region ?_
    refine WL.run 1 tt_ok sg0 rfl rfl trivial ?_
    obtain ⟨x2, hx2, H⟩ := of_bind H
    refine WL.call [] (bits_Set_First_0 _ hx2) bits_Set_First_f rfl rfl trivial rfl rfl rfl ?_
    refine WL.run 1 tt_ok sg0 rfl rfl trivial ?_
    refine WL.nil ?_
    refine QT.n ?_
    refine WC.ret ?_
    refine QT.r ?_
    cases H
    exact Ends.auto rfl rfl rfl trivial
  replace H := of_f H h1
  refine WC.skip ?_
  refine QT.n ?_
  refine WC.seq ?_
  refine WC.seq ?_
  refine WC.region ?_
  refine WL.run 2 tt_ok sg0 rfl rfl trivial ?_
  refine WL.nil ?_
  refine QT.n ?_
  refine WC.cond rfl (fun h3 => ?_) (fun h3 => ?_)
  · replace H := of_t H h3
    refine WC.seq ?_
    refine WC.region ?_
    refine WL.run 1 tt_ok sg0 rfl rfl trivial ?_
    refine WL.nil ?_
    refine QT.n ?_
    refine WC.ret ?_
    refine QT.r ?_
    cases H
    exact Ends.auto rfl rfl rfl trivial
  replace H := of_f H h3
  refine WC.skip ?_
  refine QT.n ?_
  refine WC.seq ?_
  refine WC.region ?_
  obtain ⟨g4, H⟩ := of_need H
  obtain ⟨g5, H⟩ := of_need H
  refine WL.run 7 tt_ok sg0 rfl rfl ⟨(nNn_ok g4), (nNn_ok g5), trivial⟩ ?_
  obtain ⟨x6, hx6, H⟩ := of_bind H
  refine WL.call [] (bits_Set_First_0 _ hx6) bits_Set_First_f rfl rfl trivial rfl rfl rfl ?_
  refine WL.run 1 tt_ok sg0 rfl rfl trivial ?_
  refine WL.nil ?_
  refine QT.n ?_
  refine WC.ret ?_
  cases H
  exact Ends.auto rfl rfl rfl trivial
theorem bits_Set_Next_f : hasFunc Tryd.prog 17 Tryd.f17 := ⟨Tryd.func17, rfl, by kernel_rfl⟩

/-! ### logjam/logjamlaw02.BitsWalk -/
theorem law02_BitsWalk_0 (a0 : Int) {r : Bool} (H : law02_BitsWalk a0 = some r) : LJ.Spec Tryd.prog 5 [.d (.int .u64 a0)] [] (.d (.bool r)) [] := by
  refine LJ.Spec.code Tryd.func5 rfl 55 rfl rfl [] rfl fun w0 F0 S0 B0 => ?_
  unfold law02_BitsWalk at H
  refine WC.seq ?_
  refine WC.region ?_
  refine WL.run 1 tt_ok sg0 rfl rfl trivial ?_
  refine WL.nil ?_
  refine QT.n ?_
  refine WC.seq ?_
  refine WC.region ?_
  refine WL.run 2 tt_ok sg0 rfl rfl trivial ?_
  obtain ⟨x1, hx1, H⟩ := of_bind H
  refine WL.call [] (bits_Set_First_0 _ hx1) bits_Set_First_f rfl rfl trivial rfl rfl rfl ?_
  refine WL.run 3 tt_ok sg0 rfl rfl trivial ?_
  refine WL.nil ?_
  refine QT.n ?_
  refine WC.seq ?_
  refine WC.region ?_
  refine WL.run 1 tt_ok sg0 rfl rfl trivial ?_
  obtain ⟨x2, hx2, H⟩ := of_bind H
  refine WL.call [] (ref02_List_0 _ hx2) ref02_List_f rfl rfl trivial rfl rfl rfl ?_
  refine WL.run 1 tt_ok sg0 rfl rfl trivial ?_
  refine WL.nil ?_
  refine QT.n ?_
  obtain ⟨K3, hK3, H⟩ := of_withK H
  refine WC.cut (fun E m => ∃ s4 : Int, K3 s4 = some r ∧ LessW E m [(3, .d (.int .u64 a0)), (5, .d (.int .i64 s4)), (6, .d (slT enc_i64 x2))] []) ?_ ?_
  · refine WC.block ?_
    refine WC.loop (ι := {x : Nat × (Int × Int) // law02_BitsWalk_l6 a0 x2 K3 x.1 x.2 = some r}) (fun x => [(3, .d (.int .u64 a0)), (4, .d (.int .i64 x.1.2.1)), (5, .d (.int .i64 x.1.2.2)), (6, .d (slT enc_i64 x2))]) (fun x => []) (fun x => x.1.1) ⟨(fuel, (x1, 0)), H⟩ (Less.mk' ⟨rfl, rfl, rfl, rfl, trivial⟩ trivial) fun x => ?_
    obtain ⟨⟨k6, s5⟩, H⟩ := x
    rcases k6 with _ | k6
    · exact of_none H
    rw [law02_BitsWalk_l6] at H
    refine WC.seq ?_
    refine WC.seq ?_
    refine WC.region ?_
    refine WL.run 3 tt_ok sg0 rfl rfl trivial ?_
    refine WL.sect 2 2 true tt_ok sg0 rfl rfl (fun _ => trivial) ?_
    refine WL.run 1 tt_ok sg0 rfl rfl ⟨by first | exact id | exact fun h => by rw [h]; rfl | simp_all, trivial⟩ ?_
    refine WL.nil ?_
    refine QT.n ?_
    refine WC.cond rfl (fun h7 => ?_) (fun h7 => ?_)
    · replace H := of_t H h7
      refine WC.skip ?_
      refine QT.n ?_
      refine WC.block ?_
      refine WC.seq ?_
      refine WC.seq ?_
      refine WC.region ?_
      refine WL.run 5 tt_ok sg0 rfl rfl trivial ?_
      obtain ⟨g8, H⟩ := of_needS H
      refine WL.sect 6 4 false tt_ok sg0 rfl rfl (fun hb => ⟨⟨(nIn_ok (g8 hb)).1, (nIn_ok (g8 hb)).2, rfl⟩, trivial⟩) ?_
      refine WL.run 2 tt_ok sg0 rfl rfl ⟨by first | exact id | exact fun h => by rw [h]; rfl | simp_all, trivial⟩ ?_
      obtain ⟨x9, hx9, H⟩ := of_bind H
      refine WL.sect 5 12 false tt_ok [PSig.at' bits_Set_Pick_f ((!((iLe (x2.length : Int) s5.2) || (iNe (x2.getD s5.2.toNat default) s5.1))) = true) rfl (fun hb => bits_Set_Pick_0 _ _ (of_t hx9 hb))] rfl rfl (fun hb => ⟨⟨hb, rfl⟩, trivial⟩) ?_
      refine WL.run 1 tt_ok sg0 rfl rfl ⟨by first | exact id | exact fun h => by rw [h]; rfl | simp_all, trivial⟩ ?_
      refine WL.nil ?_
      refine QT.n ?_
      refine WC.cond rfl (fun h10 => ?_) (fun h10 => ?_)
      · replace H := of_t H h10
        refine WC.seq ?_
        refine WC.region ?_
        refine WL.run 1 tt_ok sg0 rfl rfl trivial ?_
        refine WL.nil ?_
        refine QT.n ?_
        refine WC.ret ?_
        refine QT.r (QB.r (QT.r (QB.r (QT.r ?_))))
        cases H
        exact Ends.auto rfl rfl rfl trivial
      replace H := of_f H h10
      refine WC.skip ?_
      refine QT.n ?_
      refine WC.region ?_
      refine WL.run 2 tt_ok sg0 rfl rfl trivial ?_
      obtain ⟨x11, hx11, H⟩ := of_bind H
      refine WL.call [] (bits_Set_Next_0 _ _ hx11) bits_Set_Next_f rfl rfl trivial rfl rfl rfl ?_
      refine WL.run 4 tt_ok sg0 rfl rfl trivial ?_
      refine WL.nil ?_
      refine QB.n (QT.n ?_)
      exact ⟨⟨(k6, (x11, IntKind.i64.wrap (s5.2 + 1))), H⟩, Nat.lt_succ_self _, Less.mk' ⟨rfl, rfl, rfl, rfl, trivial⟩ trivial⟩
    replace H := of_f H h7
    refine WC.exit ?_
    refine QT.x (QT.x (QB.hit (QT.n ?_)))
    exact ⟨s5.2, H, LessW.mk' ⟨AVle.of rfl, AVle.of rfl, AVle.of rfl, trivial⟩ trivial⟩
  · rintro E m ⟨s4, H, hl⟩
    refine WC.lessW hl ?_
    replace H := (hK3 _).symm.trans H
    try dsimp only at H
    refine WC.seq ?_
    refine WC.region ?_
    refine WL.run 5 tt_ok sg0 rfl rfl trivial ?_
    obtain ⟨x12, hx12, H⟩ := of_bind H
    refine WL.sect 4 4 true tt_ok [PSig.at' bits_Set_Pick_f ((iEq s4 (x2.length : Int)) = true) rfl (fun hb => bits_Set_Pick_0 _ _ (of_t hx12 hb))] rfl rfl (fun hb => ⟨⟨hb, rfl⟩, trivial⟩) ?_
    refine WL.run 2 tt_ok sg0 rfl rfl ⟨by first | exact id | exact fun h => by rw [h]; rfl | simp_all, trivial⟩ ?_
    obtain ⟨x13, hx13, H⟩ := of_bind H
    refine WL.sect 1 10 true tt_ok [PSig.at' law02_lives_f (((iEq s4 (x2.length : Int)) && (iEq x12 (-1))) = true) rfl (fun hb => law02_lives_0  (of_t hx13 hb))] rfl rfl (fun hb => ⟨⟨hb, rfl⟩, trivial⟩) ?_
    refine WL.run 2 tt_ok sg0 rfl rfl ⟨by first | exact id | exact fun h => by rw [h]; rfl | simp_all, trivial⟩ ?_
    refine WL.nil ?_
    refine QT.n ?_
    refine WC.ret ?_
    cases H
    exact Ends.auto rfl rfl rfl trivial
theorem law02_BitsWalk_f : hasFunc Tryd.prog 5 Tryd.f5 := ⟨Tryd.func5, rfl, by kernel_rfl⟩

/-! ### (logjam/bits.Set).With -/
theorem bits_Set_With_0 (a0 : Int) (a1 : Int) {r : Int} (H : bits_Set_With a0 a1 = some r) : LJ.Spec Tryd.prog 19 [.d (.int .u64 a0), .d (.int .i64 a1)] [] (.d (.int .u64 r)) [] := by
  refine LJ.Spec.code Tryd.func19 rfl 9 rfl rfl [] rfl fun w0 F0 S0 B0 => ?_
  unfold bits_Set_With at H
  refine WC.seq ?_
  refine WC.region ?_
  refine WL.run 1 tt_ok sg0 rfl rfl trivial ?_
  refine WL.nil ?_
  refine QT.n ?_
  refine WC.seq ?_
  refine WC.region ?_
  refine WL.run 2 tt_ok sg0 rfl rfl trivial ?_
  obtain ⟨x1, hx1, H⟩ := of_bind H
  refine WL.call [] (bits_one_0 _ hx1) bits_one_f rfl rfl trivial rfl rfl rfl ?_
  refine WL.run 2 tt_ok sg0 rfl rfl trivial ?_
  refine WL.nil ?_
  refine QT.n ?_
  refine WC.ret ?_
  cases H
  exact Ends.auto rfl rfl rfl trivial
theorem bits_Set_With_f : hasFunc Tryd.prog 19 Tryd.f19 := ⟨Tryd.func19, rfl, by kernel_rfl⟩

/-! ### (logjam/bits.Set).Without -/
theorem bits_Set_Without_0 (a0 : Int) (a1 : Int) {r : Int} (H : bits_Set_Without a0 a1 = some r) : LJ.Spec Tryd.prog 21 [.d (.int .u64 a0), .d (.int .i64 a1)] [] (.d (.int .u64 r)) [] := by
  refine LJ.Spec.code Tryd.func21 rfl 9 rfl rfl [] rfl fun w0 F0 S0 B0 => ?_
  unfold bits_Set_Without at H
  refine WC.seq ?_
  refine WC.region ?_
  refine WL.run 1 tt_ok sg0 rfl rfl trivial ?_
  refine WL.nil ?_
  refine QT.n ?_
  refine WC.seq ?_
  refine WC.region ?_
  refine WL.run 2 tt_ok sg0 rfl rfl trivial ?_
  obtain ⟨x1, hx1, H⟩ := of_bind H
  refine WL.call [] (bits_one_0 _ hx1) bits_one_f rfl rfl trivial rfl rfl rfl ?_
  refine WL.run 2 tt_ok sg0 rfl rfl trivial ?_
  refine WL.nil ?_
  refine QT.n ?_
  refine WC.ret ?_
  cases H
  exact Ends.auto rfl rfl rfl trivial
theorem bits_Set_Without_f : hasFunc Tryd.prog 21 Tryd.f21 := ⟨Tryd.func21, rfl, by kernel_rfl⟩

/-! ### logjam/logjamref02.Without -/
theorem ref02_Without_0 (a0 : Int) (a1 : Int) {r : Int} (H : ref02_Without a0 a1 = some r) : LJ.Spec Tryd.prog 22 [.d (.int .u64 a0), .d (.int .i64 a1)] [] (.d (.int .u64 r)) [] := by
  refine LJ.Spec.code Tryd.func22 rfl 14 rfl rfl [] rfl fun w0 F0 S0 B0 => ?_
  unfold ref02_Without at H
  refine WC.seq ?_
  refine WC.region ?_
  refine WL.run 1 tt_ok sg0 rfl rfl trivial ?_
  refine WL.nil ?_
  refine QT.n ?_
  refine WC.seq ?_
  refine WC.seq ?_
  refine WC.region ?_
  refine WL.run 2 tt_ok sg0 rfl rfl trivial ?_
  obtain ⟨x1, hx1, H⟩ := of_bind H
  refine WL.call [] (ref02_Has_0 _ _ hx1) ref02_Has_f rfl rfl trivial rfl rfl rfl ?_
  refine WL.run 1 tt_ok sg0 rfl rfl trivial ?_
  refine WL.nil ?_
  refine QT.n ?_
  refine WC.cond rfl (fun h2 => ?_) (fun h2 => ?_)
  · replace H := of_t H h2
    refine WC.seq ?_
    refine WC.region ?_
    refine WL.run 2 tt_ok sg0 rfl rfl trivial ?_
    refine WL.nil ?_
    refine QT.n ?_
    refine WC.ret ?_
    refine QT.r ?_
    cases H
    exact Ends.auto rfl rfl rfl trivial
  replace H := of_f H h2
  refine WC.skip ?_
  refine QT.n ?_
  refine WC.seq ?_
  refine WC.region ?_
  refine WL.run 2 tt_ok sg0 rfl rfl trivial ?_
  obtain ⟨x3, hx3, H⟩ := of_bind H
  refine WL.call [] (ref02_power_0 _ hx3) ref02_power_f rfl rfl trivial rfl rfl rfl ?_
  refine WL.run 2 tt_ok sg0 rfl rfl trivial ?_
  refine WL.nil ?_
  refine QT.n ?_
  refine WC.ret ?_
  cases H
  exact Ends.auto rfl rfl rfl trivial
theorem ref02_Without_f : hasFunc Tryd.prog 22 Tryd.f22 := ⟨Tryd.func22, rfl, by kernel_rfl⟩

/-! ### logjam/logjamref02.Next -/
theorem ref02_Next_0 (a0 : Int) (a1 : Int) {r : Int} (H : ref02_Next a0 a1 = some r) : LJ.Spec Tryd.prog 23 [.d (.int .u64 a0), .d (.int .i64 a1)] [] (.d (.int .i64 r)) [] := by
  refine LJ.Spec.code Tryd.func23 rfl 25 rfl rfl [] rfl fun w0 F0 S0 B0 => ?_
  unfold ref02_Next at H
  refine WC.seq ?_
  refine WC.region ?_
  refine WL.run 1 tt_ok sg0 rfl rfl trivial ?_
  refine WL.nil ?_
  refine QT.n ?_
  refine WC.seq ?_
  refine WC.region ?_
  refine WL.run 1 tt_ok sg0 rfl rfl trivial ?_
  obtain ⟨x1, hx1, H⟩ := of_bind H
  refine WL.call [] (ref02_List_0 _ hx1) ref02_List_f rfl rfl trivial rfl rfl rfl ?_
  refine WL.run 1 tt_ok sg0 rfl rfl trivial ?_
  refine WL.nil ?_
  refine QT.n ?_
  refine WC.seq ?_
  refine WC.seq ?_
  refine WC.region ?_
  refine WL.run 1 tt_ok sg0 rfl rfl trivial ?_
  refine WL.nil ?_
  refine QT.n ?_
  refine WC.block ?_
  refine WC.loop (ι := {x : Nat × Int // ref02_Next_l3 a1 x1 x.1 x.2 = some r}) (fun x => [(1, .d (.int .i64 a1)), (5, .d (slT enc_i64 x1)), (6, .d (.int .i64 x.1.2))]) (fun x => []) (fun x => x.1.1) ⟨(fuel, 0), H⟩ (Less.mk' ⟨rfl, rfl, rfl, trivial⟩ trivial) fun x => ?_
  obtain ⟨⟨k3, s2⟩, H⟩ := x
  rcases k3 with _ | k3
  · exact of_none H
  rw [ref02_Next_l3] at H
  refine WC.seq ?_
  refine WC.seq ?_
  refine WC.region ?_
  refine WL.run 4 tt_ok sg0 rfl rfl trivial ?_
  refine WL.nil ?_
  refine QT.n ?_
  refine WC.cond rfl (fun h4 => ?_) (fun h4 => ?_)
  · replace H := of_t H h4
    refine WC.skip ?_
    refine QT.n ?_
    refine WC.seq ?_
    refine WC.block ?_
    refine WC.seq ?_
    refine WC.region ?_
    obtain ⟨g5, H⟩ := of_need H
    refine WL.run 6 tt_ok sg0 rfl rfl ⟨⟨(nIn_ok g5).1, (nIn_ok g5).2, rfl⟩, trivial⟩ ?_
    refine WL.nil ?_
    refine QT.n ?_
    refine WC.cond rfl (fun h6 => ?_) (fun h6 => ?_)
    · replace H := of_t H h6
      refine WC.seq ?_
      refine WC.region ?_
      obtain ⟨g7, H⟩ := of_need H
      refine WL.run 5 tt_ok sg0 rfl rfl ⟨⟨(nIn_ok g7).1, (nIn_ok g7).2, rfl⟩, trivial⟩ ?_
      refine WL.nil ?_
      refine QT.n ?_
      refine WC.ret ?_
      refine QB.r (QT.r (QT.r (QB.r (QT.r ?_))))
      cases H
      exact Ends.auto rfl rfl rfl trivial
    replace H := of_f H h6
    refine WC.skip ?_
    refine QB.n (QT.n ?_)
    refine WC.region ?_
    refine WL.run 3 tt_ok sg0 rfl rfl trivial ?_
    refine WL.nil ?_
    refine QT.n ?_
    exact ⟨⟨(k3, IntKind.i64.wrap (s2 + 1)), H⟩, Nat.lt_succ_self _, Less.mk' ⟨rfl, rfl, rfl, trivial⟩ trivial⟩
  replace H := of_f H h4
  refine WC.exit ?_
  refine QT.x (QT.x (QB.hit (QT.n ?_)))
  refine WC.seq ?_
  refine WC.region ?_
  refine WL.run 1 tt_ok sg0 rfl rfl trivial ?_
  refine WL.nil ?_
  refine QT.n ?_
  refine WC.ret ?_
  cases H
  exact Ends.auto rfl rfl rfl trivial
theorem ref02_Next_f : hasFunc Tryd.prog 23 Tryd.f23 := ⟨Tryd.func23, rfl, by kernel_rfl⟩

/-! ### logjam/logjamlaw02.same -/
theorem law02_same_0 (a0 : List Int) (a1 : List Int) {r : Bool} (H : law02_same a0 a1 = some r) : LJ.Spec Tryd.prog 24 [.d (slT enc_i64 a0), .d (slT enc_i64 a1)] [] (.d (.bool r)) [] := by
  refine LJ.Spec.code Tryd.func24 rfl 26 rfl rfl [] rfl fun w0 F0 S0 B0 => ?_
  unfold law02_same at H
  refine WC.seq ?_
  refine WC.region ?_
  refine WL.run 1 tt_ok sg0 rfl rfl trivial ?_
  refine WL.nil ?_
  refine QT.n ?_
  refine WC.seq ?_
  refine WC.seq ?_
  refine WC.region ?_
  refine WL.run 5 tt_ok sg0 rfl rfl trivial ?_
  refine WL.nil ?_
  refine QT.n ?_
  refine WC.cond rfl (fun h1 => ?_) (fun h1 => ?_)
  · replace H := of_t H h1
    refine WC.seq ?_
    refine WC.region ?_
    refine WL.run 1 tt_ok sg0 rfl rfl trivial ?_
    refine WL.nil ?_
    refine QT.n ?_
    refine WC.ret ?_
    refine QT.r ?_
    cases H
    exact Ends.auto rfl rfl rfl trivial
  replace H := of_f H h1
  refine WC.skip ?_
  refine QT.n ?_
  refine WC.seq ?_
  refine WC.seq ?_
  refine WC.region ?_
  refine WL.run 1 tt_ok sg0 rfl rfl trivial ?_
  refine WL.nil ?_
  refine QT.n ?_
  refine WC.block ?_
  refine WC.loop (ι := {x : Nat × Int // law02_same_l3 a0 a1 x.1 x.2 = some r}) (fun x => [(0, .d (slT enc_i64 a0)), (1, .d (slT enc_i64 a1)), (5, .d (.int .i64 x.1.2))]) (fun x => []) (fun x => x.1.1) ⟨(fuel, 0), H⟩ (Less.mk' ⟨rfl, rfl, rfl, trivial⟩ trivial) fun x => ?_
  obtain ⟨⟨k3, s2⟩, H⟩ := x
  rcases k3 with _ | k3
  · exact of_none H
  rw [law02_same_l3] at H
  refine WC.seq ?_
  refine WC.seq ?_
  refine WC.region ?_
  refine WL.run 4 tt_ok sg0 rfl rfl trivial ?_
  refine WL.nil ?_
  refine QT.n ?_
  refine WC.cond rfl (fun h4 => ?_) (fun h4 => ?_)
  · replace H := of_t H h4
    refine WC.skip ?_
    refine QT.n ?_
    refine WC.seq ?_
    refine WC.block ?_
    refine WC.seq ?_
    refine WC.heldP (.one 0 true (.one 1 true (.one 2 true (.one 3 true (.one 4 true (.one 5 true (.one 6 true (.one 7 true (.one 8 true .done))))))))) [] [] rfl (by kernel_rfl) rfl (by kernel_rfl) rfl rfl (fun _ h => h) rfl rfl rfl (fun _ _ _ h => h) fun FK NK wK K => ?_
    obtain ⟨g5, H⟩ := of_need H
    obtain ⟨g6, H⟩ := of_need H
    refine WH.run 9 tt_ok rfl rfl rfl rfl ⟨⟨(nIn_ok g5).1, (nIn_ok g5).2, rfl⟩, ⟨(nIn_ok g6).1, (nIn_ok g6).2, rfl⟩, trivial⟩ ?_
    refine WH.nil rfl ?_
    refine QT.n ?_
    refine WC.cond rfl (fun h7 => ?_) (fun h7 => ?_)
    · replace H := of_t H h7
      refine WC.seq ?_
      refine WC.region ?_
      refine WL.run 1 tt_ok sg0 rfl rfl trivial ?_
      refine WL.nil ?_
      refine QT.n ?_
      refine WC.ret ?_
      refine QB.r (QT.r (QT.r (QB.r (QT.r ?_))))
      cases H
      exact Ends.auto rfl rfl rfl trivial
    replace H := of_f H h7
    refine WC.skip ?_
    refine QB.n (QT.n ?_)
    refine WC.region ?_
    refine WL.run 3 tt_ok sg0 rfl rfl trivial ?_
    refine WL.nil ?_
    refine QT.n ?_
    exact ⟨⟨(k3, IntKind.i64.wrap (s2 + 1)), H⟩, Nat.lt_succ_self _, Less.mk' ⟨rfl, rfl, rfl, trivial⟩ trivial⟩
  replace H := of_f H h4
  refine WC.exit ?_
  refine QT.x (QT.x (QB.hit (QT.n ?_)))
  refine WC.seq ?_
  refine WC.region ?_
  refine WL.run 1 tt_ok sg0 rfl rfl trivial ?_
  refine WL.nil ?_
  refine QT.n ?_
  refine WC.ret ?_
  cases H
  exact Ends.auto rfl rfl rfl trivial
theorem law02_same_f : hasFunc Tryd.prog 24 Tryd.f24 := ⟨Tryd.func24, rfl, by kernel_rfl⟩

/-! ### logjam/logjamref02.Of -/
theorem ref02_Of_0 (a0 : List Int) {r : Int} (H : ref02_Of a0 = some r) : LJ.Spec Tryd.prog 27 [.d (slT enc_i64 a0)] [] (.d (.int .u64 r)) [] := by
  refine LJ.Spec.code Tryd.func27 rfl 18 rfl rfl [] rfl fun w0 F0 S0 B0 => ?_
  unfold ref02_Of at H
  refine WC.seq ?_
  refine WC.region ?_
  refine WL.run 1 tt_ok sg0 rfl rfl trivial ?_
  refine WL.nil ?_
  refine QT.n ?_
  refine WC.seq ?_
  refine WC.region ?_
  refine WL.run 1 tt_ok sg0 rfl rfl trivial ?_
  refine WL.nil ?_
  refine QT.n ?_
  refine WC.seq ?_
  refine WC.seq ?_
  refine WC.region ?_
  refine WL.run 1 tt_ok sg0 rfl rfl trivial ?_
  refine WL.nil ?_
  refine QT.n ?_
  refine WC.block ?_
  refine WC.loop (ι := {x : Nat × (Int × Int) // ref02_Of_l2 a0 x.1 x.2 = some r}) (fun x => [(0, .d (slT enc_i64 a0)), (3, .d (.int .u64 x.1.2.1)), (4, .d (.int .i64 x.1.2.2))]) (fun x => []) (fun x => x.1.1) ⟨(fuel, (0, 0)), H⟩ (Less.mk' ⟨rfl, rfl, rfl, trivial⟩ trivial) fun x => ?_
  obtain ⟨⟨k2, s1⟩, H⟩ := x
  rcases k2 with _ | k2
  · exact of_none H
  rw [ref02_Of_l2] at H
  refine WC.seq ?_
  refine WC.seq ?_
  refine WC.region ?_
  refine WL.run 4 tt_ok sg0 rfl rfl trivial ?_
  refine WL.nil ?_
  refine QT.n ?_
  refine WC.cond rfl (fun h3 => ?_) (fun h3 => ?_)
  · replace H := of_t H h3
    refine WC.skip ?_
    refine QT.n ?_
    refine WC.seq ?_
    refine WC.block ?_
    refine WC.region ?_
    obtain ⟨g4, H⟩ := of_need H
    refine WL.run 5 tt_ok sg0 rfl rfl ⟨⟨(nIn_ok g4).1, (nIn_ok g4).2, rfl⟩, trivial⟩ ?_
    obtain ⟨x5, hx5, H⟩ := of_bind H
    refine WL.call [] (ref02_With_0 _ _ hx5) ref02_With_f rfl rfl trivial rfl rfl rfl ?_
    refine WL.run 1 tt_ok sg0 rfl rfl trivial ?_
    refine WL.nil ?_
    refine QB.n (QT.n ?_)
    refine WC.region ?_
    refine WL.run 3 tt_ok sg0 rfl rfl trivial ?_
    refine WL.nil ?_
    refine QT.n ?_
    exact ⟨⟨(k2, (x5, IntKind.i64.wrap (s1.2 + 1))), H⟩, Nat.lt_succ_self _, Less.mk' ⟨rfl, rfl, rfl, trivial⟩ trivial⟩
  replace H := of_f H h3
  refine WC.exit ?_
  refine QT.x (QT.x (QB.hit (QT.n ?_)))
  refine WC.seq ?_
  refine WC.region ?_
  refine WL.run 2 tt_ok sg0 rfl rfl trivial ?_
  refine WL.nil ?_
  refine QT.n ?_
  refine WC.ret ?_
  cases H
  exact Ends.auto rfl rfl rfl trivial
theorem ref02_Of_f : hasFunc Tryd.prog 27 Tryd.f27 := ⟨Tryd.func27, rfl, by kernel_rfl⟩

/-! ### logjam/logjamlaw02.BitsTells -/
theorem law02_BitsTells_0 (a0 : Int) (a1 : Int) (a2 : List Int) {r : Bool} (H : law02_BitsTells a0 a1 a2 = some r) : LJ.Spec Tryd.prog 6 [.d (.int .u64 a0), .d (.int .i64 a1), .d (slT enc_i64 a2)] [] (.d (.bool r)) [] := by
  refine LJ.Spec.code Tryd.func6 rfl 101 rfl rfl [] rfl fun w0 F0 S0 B0 => ?_
  unfold law02_BitsTells at H
  refine WC.seq ?_
  refine WC.region ?_
  refine WL.run 1 tt_ok sg0 rfl rfl trivial ?_
  refine WL.nil ?_
  refine QT.n ?_
  refine WC.seq ?_
  refine WC.seq ?_
  refine WC.region ?_
  refine WL.run 3 tt_ok sg0 rfl rfl trivial ?_
  refine WL.nil ?_
  refine QT.n ?_
  refine WC.cond rfl (fun h1 => ?_) (fun h1 => ?_)
  · replace H := of_t H h1
    refine WC.region ?_
    refine WL.run 1 tt_ok sg0 rfl rfl trivial ?_
    obtain ⟨g2, H⟩ := of_need H
    refine WL.yv (LJ.Y.sliceT enc_i64 a2 tt_ok rfl (fun _ => rfl) none (some (.const (.int .i64 200))) (0 : Int) (200 : Int) rfl rfl ⟨_, rfl⟩ rfl rfl (nSl_ok g2)) rfl rfl rfl ?_
    refine WL.run 1 tt_ok sg0 rfl rfl trivial ?_
    refine WL.nil ?_
    refine QT.n ?_
    refine WC.seq ?_
    refine WC.region ?_
    refine WL.run 2 tt_ok sg0 rfl rfl trivial ?_
    obtain ⟨x3, hx3, H⟩ := of_bind H
    refine WL.call [] (ref02_List_0 _ hx3) ref02_List_f rfl rfl trivial rfl rfl rfl ?_
    refine WL.run 2 tt_ok sg0 rfl rfl trivial ?_
    refine WL.nil ?_
    refine QT.n ?_
    refine WC.seq ?_
    refine WC.region ?_
    refine WL.run 1 tt_ok sg0 rfl rfl trivial ?_
    refine WL.nil ?_
    refine QT.n ?_
    refine WC.seq ?_
    refine WC.seq ?_
    refine WC.region ?_
    refine WL.run 3 tt_ok sg0 rfl rfl trivial ?_
    refine WL.sect 4 2 true tt_ok sg0 rfl rfl (fun _ => trivial) ?_
    refine WL.run 1 tt_ok sg0 rfl rfl ⟨by first | exact id | exact fun h => by rw [h]; rfl | simp_all, trivial⟩ ?_
    refine WL.nil ?_
    refine QT.n ?_
    refine WC.cond rfl (fun h4 => ?_) (fun h4 => ?_)
    · replace H := of_t H h4
      refine WC.region ?_
      obtain ⟨g5, H⟩ := of_need H
      refine WL.run 5 tt_ok sg0 rfl rfl ⟨⟨(nIn_ok g5).1, (nIn_ok g5).2, rfl⟩, trivial⟩ ?_
      refine WL.nil ?_
      refine QT.n ?_
      refine WC.seq ?_
      refine WC.seq ?_
      refine WC.region ?_
      refine WL.run 2 tt_ok sg0 rfl rfl trivial ?_
      obtain ⟨x6, hx6, H⟩ := of_bind H
      refine WL.call [] (bits_Set_Has_0 _ _ hx6) bits_Set_Has_f rfl rfl trivial rfl rfl rfl ?_
      refine WL.run 2 tt_ok sg0 rfl rfl trivial ?_
      obtain ⟨x7, hx7, H⟩ := of_bind H
      refine WL.call [] (ref02_Has_0 _ _ hx7) ref02_Has_f rfl rfl trivial rfl rfl rfl ?_
      refine WL.run 2 tt_ok sg0 rfl rfl trivial ?_
      obtain ⟨x8, hx8, H⟩ := of_bind H
      obtain ⟨x9, hx9, H⟩ := of_bind H
      refine WL.sect 7 7 false tt_ok [PSig.at' bits_Set_With_f ((!(!(x6 == x7))) = true) rfl (fun hb => bits_Set_With_0 _ _ (of_t hx8 hb)), PSig.at' ref02_With_f ((!(!(x6 == x7))) = true) rfl (fun hb => ref02_With_0 _ _ (of_t hx9 hb))] rfl rfl (fun hb => ⟨⟨hb, rfl⟩, ⟨hb, rfl⟩, trivial⟩) ?_
      refine WL.run 2 tt_ok sg0 rfl rfl ⟨by first | exact id | exact fun h => by rw [h]; rfl | simp_all, trivial⟩ ?_
      obtain ⟨x10, hx10, H⟩ := of_bind H
      obtain ⟨x11, hx11, H⟩ := of_bind H
      refine WL.sect 7 16 false tt_ok [PSig.at' bits_Set_Without_f ((!((!(x6 == x7)) || (iNe x8 x9))) = true) rfl (fun hb => bits_Set_Without_0 _ _ (of_t hx10 hb)), PSig.at' ref02_Without_f ((!((!(x6 == x7)) || (iNe x8 x9))) = true) rfl (fun hb => ref02_Without_0 _ _ (of_t hx11 hb))] rfl rfl (fun hb => ⟨⟨hb, rfl⟩, ⟨hb, rfl⟩, trivial⟩) ?_
      refine WL.run 2 tt_ok sg0 rfl rfl ⟨by first | exact id | exact fun h => by rw [h]; rfl | simp_all, trivial⟩ ?_
      obtain ⟨x12, hx12, H⟩ := of_bind H
      refine WL.sect 5 25 false tt_ok [PSig.at' bits_Set_Count_f ((!(((!(x6 == x7)) || (iNe x8 x9)) || (iNe x10 x11))) = true) rfl (fun hb => bits_Set_Count_0 _ (of_t hx12 hb))] rfl rfl (fun hb => ⟨⟨hb, rfl⟩, trivial⟩) ?_
      refine WL.run 2 tt_ok sg0 rfl rfl ⟨by first | exact id | exact fun h => by rw [h]; rfl | simp_all, trivial⟩ ?_
      obtain ⟨x13, hx13, H⟩ := of_bind H
      obtain ⟨x14, hx14, H⟩ := of_bind H
      refine WL.sect 5 32 false tt_ok [PSig.at' bits_Set_First_f ((!((((!(x6 == x7)) || (iNe x8 x9)) || (iNe x10 x11)) || (iNe x12 (x3.length : Int)))) = true) rfl (fun hb => bits_Set_First_0 _ (of_t hx13 hb)), PSig.at' ref02_Next_f ((!((((!(x6 == x7)) || (iNe x8 x9)) || (iNe x10 x11)) || (iNe x12 (x3.length : Int)))) = true) rfl (fun hb => ref02_Next_0 _ _ (of_t hx14 hb))] rfl rfl (fun hb => ⟨⟨hb, rfl⟩, ⟨hb, rfl⟩, trivial⟩) ?_
      refine WL.run 2 tt_ok sg0 rfl rfl ⟨by first | exact id | exact fun h => by rw [h]; rfl | simp_all, trivial⟩ ?_
      obtain ⟨x15, hx15, H⟩ := of_bind H
      obtain ⟨x16, hx16, H⟩ := of_bind H
      refine WL.sect 7 39 false tt_ok [PSig.at' bits_Set_Next_f ((!(((((!(x6 == x7)) || (iNe x8 x9)) || (iNe x10 x11)) || (iNe x12 (x3.length : Int))) || (iNe x13 x14))) = true) rfl (fun hb => bits_Set_Next_0 _ _ (of_t hx15 hb)), PSig.at' ref02_Next_f ((!(((((!(x6 == x7)) || (iNe x8 x9)) || (iNe x10 x11)) || (iNe x12 (x3.length : Int))) || (iNe x13 x14))) = true) rfl (fun hb => ref02_Next_0 _ _ (of_t hx16 hb))] rfl rfl (fun hb => ⟨⟨hb, rfl⟩, ⟨hb, rfl⟩, trivial⟩) ?_
      refine WL.run 2 tt_ok sg0 rfl rfl ⟨by first | exact id | exact fun h => by rw [h]; rfl | simp_all, trivial⟩ ?_
      obtain ⟨x17, hx17, H⟩ := of_bind H
      refine WL.sect 5 48 false tt_ok [PSig.at' bits_Set_Pick_f ((!((((((!(x6 == x7)) || (iNe x8 x9)) || (iNe x10 x11)) || (iNe x12 (x3.length : Int))) || (iNe x13 x14)) || (iNe x15 x16))) = true) rfl (fun hb => bits_Set_Pick_0 _ _ (of_t hx17 hb))] rfl rfl (fun hb => ⟨⟨hb, rfl⟩, trivial⟩) ?_
      refine WL.run 1 tt_ok sg0 rfl rfl ⟨by first | exact id | exact fun h => by rw [h]; rfl | simp_all, trivial⟩ ?_
      refine WL.nil ?_
      refine QT.n ?_
      refine WC.cond rfl (fun h18 => ?_) (fun h18 => ?_)
      · replace H := of_t H h18
        refine WC.seq ?_
        refine WC.region ?_
        refine WL.run 1 tt_ok sg0 rfl rfl trivial ?_
        refine WL.nil ?_
        refine QT.n ?_
        refine WC.ret ?_
        refine QT.r ?_
        cases H
        exact Ends.auto rfl rfl rfl trivial
      replace H := of_f H h18
      refine WC.skip ?_
      refine QT.n ?_
      refine WC.seq ?_
      refine WC.region ?_
      refine WL.run 1 tt_ok sg0 rfl rfl trivial ?_
      obtain ⟨x19, hx19, H⟩ := of_bind H
      refine WL.call [] (bits_Set_List_0 _ hx19) bits_Set_List_f rfl rfl trivial rfl rfl rfl ?_
      refine WL.run 1 tt_ok sg0 rfl rfl trivial ?_
      obtain ⟨x20, hx20, H⟩ := of_bind H
      refine WL.call [] (law02_same_0 _ _ hx20) law02_same_f rfl rfl trivial rfl rfl rfl ?_
      refine WL.run 1 tt_ok sg0 rfl rfl trivial ?_
      refine WL.split (g := 89) rfl (fun h21 => ?_) (fun h21 => ?_)
      · replace H := of_t H h21
        refine WL.geff 190 4 true 89 tt_ok et_ok eg0 rfl rfl rfl rfl rfl rfl trivial ?_
        refine WL.grun 1 4 true 89 tt_ok sg0 rfl rfl rfl rfl trivial ?_
        refine WL.row 190 (([] : List Int).map enc_i64) rfl rfl rfl ?_
        obtain ⟨g22, H⟩ := of_need H
        refine WL.gappT 4 true 89 enc_i64 ([] : List Int) ((a2.take (200 : Int).toNat).drop (0 : Int).toNat) tt_ok et_ok rfl rfl (fun _ => rfl) (fun _ => rfl) rfl rfl rfl rfl (nCap_ok g22) rfl rfl rfl rfl rfl rfl rfl rfl ?_
        refine WL.freezeT 190 enc_i64 (([] : List Int) ++ ((a2.take (200 : Int).toNat).drop (0 : Int).toNat)) rfl rfl rfl rfl ?_
        obtain ⟨x23, hx23, H⟩ := of_bind H
        refine WL.gcall [] (bits_Of_0 _ hx23) bits_Of_f rfl rfl trivial rfl rfl rfl rfl rfl rfl ?_
        refine WL.grun 1 4 true 89 tt_ok sg0 rfl rfl rfl rfl trivial ?_
        obtain ⟨x24, hx24, H⟩ := of_bind H
        refine WL.gcall [] (ref02_Of_0 _ hx24) ref02_Of_f rfl rfl trivial rfl rfl rfl rfl rfl rfl ?_
        refine WL.grun 1 4 true 89 tt_ok sg0 rfl rfl rfl rfl trivial ?_
        refine WL.pickT rfl rfl rfl rfl rfl rfl ?_
        refine WL.run 1 tt_ok sg0 rfl rfl trivial ?_
        obtain ⟨x25, hx25, H⟩ := of_bind H
        refine WL.sect 1 13 true tt_ok [PSig.at' law02_lives_f ((iEq x23 x24) = true) rfl (fun hb => law02_lives_0  (of_t hx25 hb))] rfl rfl (fun hb => ⟨⟨hb, rfl⟩, trivial⟩) ?_
        refine WL.run 2 tt_ok sg0 rfl rfl ⟨by first | exact id | exact fun h => by rw [h]; rfl | simp_all, trivial⟩ ?_
        refine WL.nil ?_
        refine QT.n ?_
        refine WC.ret ?_
        cases H
        exact Ends.auto rfl rfl rfl trivial
      · replace H := of_f H h21
        refine WL.gskips 7 4 true 89 rfl rfl rfl rfl ?_
        refine WL.pickF rfl rfl rfl rfl rfl rfl ?_
        refine WL.run 1 tt_ok sg0 rfl rfl trivial ?_
        refine WL.gskips 1 13 true 98 rfl rfl rfl rfl ?_
        refine WL.pickF rfl rfl rfl rfl rfl rfl ?_
        refine WL.run 1 tt_ok sg0 rfl rfl trivial ?_
        refine WL.nil ?_
        refine QT.n ?_
        refine WC.ret ?_
        cases H
        exact Ends.auto rfl rfl rfl trivial
    replace H := of_f H h4
    refine WC.skip ?_
    refine QT.n ?_
    refine WC.seq ?_
    refine WC.seq ?_
    refine WC.region ?_
    refine WL.run 2 tt_ok sg0 rfl rfl trivial ?_
    obtain ⟨x26, hx26, H⟩ := of_bind H
    refine WL.call [] (bits_Set_Has_0 _ _ hx26) bits_Set_Has_f rfl rfl trivial rfl rfl rfl ?_
    refine WL.run 2 tt_ok sg0 rfl rfl trivial ?_
    obtain ⟨x27, hx27, H⟩ := of_bind H
    refine WL.call [] (ref02_Has_0 _ _ hx27) ref02_Has_f rfl rfl trivial rfl rfl rfl ?_
    refine WL.run 2 tt_ok sg0 rfl rfl trivial ?_
    obtain ⟨x28, hx28, H⟩ := of_bind H
    obtain ⟨x29, hx29, H⟩ := of_bind H
    refine WL.sect 7 7 false tt_ok [PSig.at' bits_Set_With_f ((!(!(x26 == x27))) = true) rfl (fun hb => bits_Set_With_0 _ _ (of_t hx28 hb)), PSig.at' ref02_With_f ((!(!(x26 == x27))) = true) rfl (fun hb => ref02_With_0 _ _ (of_t hx29 hb))] rfl rfl (fun hb => ⟨⟨hb, rfl⟩, ⟨hb, rfl⟩, trivial⟩) ?_
    refine WL.run 2 tt_ok sg0 rfl rfl ⟨by first | exact id | exact fun h => by rw [h]; rfl | simp_all, trivial⟩ ?_
    obtain ⟨x30, hx30, H⟩ := of_bind H
    obtain ⟨x31, hx31, H⟩ := of_bind H
    refine WL.sect 7 16 false tt_ok [PSig.at' bits_Set_Without_f ((!((!(x26 == x27)) || (iNe x28 x29))) = true) rfl (fun hb => bits_Set_Without_0 _ _ (of_t hx30 hb)), PSig.at' ref02_Without_f ((!((!(x26 == x27)) || (iNe x28 x29))) = true) rfl (fun hb => ref02_Without_0 _ _ (of_t hx31 hb))] rfl rfl (fun hb => ⟨⟨hb, rfl⟩, ⟨hb, rfl⟩, trivial⟩) ?_
    refine WL.run 2 tt_ok sg0 rfl rfl ⟨by first | exact id | exact fun h => by rw [h]; rfl | simp_all, trivial⟩ ?_
    obtain ⟨x32, hx32, H⟩ := of_bind H
    refine WL.sect 5 25 false tt_ok [PSig.at' bits_Set_Count_f ((!(((!(x26 == x27)) || (iNe x28 x29)) || (iNe x30 x31))) = true) rfl (fun hb => bits_Set_Count_0 _ (of_t hx32 hb))] rfl rfl (fun hb => ⟨⟨hb, rfl⟩, trivial⟩) ?_
    refine WL.run 2 tt_ok sg0 rfl rfl ⟨by first | exact id | exact fun h => by rw [h]; rfl | simp_all, trivial⟩ ?_
    obtain ⟨x33, hx33, H⟩ := of_bind H
    obtain ⟨x34, hx34, H⟩ := of_bind H
    refine WL.sect 5 32 false tt_ok [PSig.at' bits_Set_First_f ((!((((!(x26 == x27)) || (iNe x28 x29)) || (iNe x30 x31)) || (iNe x32 (x3.length : Int)))) = true) rfl (fun hb => bits_Set_First_0 _ (of_t hx33 hb)), PSig.at' ref02_Next_f ((!((((!(x26 == x27)) || (iNe x28 x29)) || (iNe x30 x31)) || (iNe x32 (x3.length : Int)))) = true) rfl (fun hb => ref02_Next_0 _ _ (of_t hx34 hb))] rfl rfl (fun hb => ⟨⟨hb, rfl⟩, ⟨hb, rfl⟩, trivial⟩) ?_
    refine WL.run 2 tt_ok sg0 rfl rfl ⟨by first | exact id | exact fun h => by rw [h]; rfl | simp_all, trivial⟩ ?_
    obtain ⟨x35, hx35, H⟩ := of_bind H
    obtain ⟨x36, hx36, H⟩ := of_bind H
    refine WL.sect 7 39 false tt_ok [PSig.at' bits_Set_Next_f ((!(((((!(x26 == x27)) || (iNe x28 x29)) || (iNe x30 x31)) || (iNe x32 (x3.length : Int))) || (iNe x33 x34))) = true) rfl (fun hb => bits_Set_Next_0 _ _ (of_t hx35 hb)), PSig.at' ref02_Next_f ((!(((((!(x26 == x27)) || (iNe x28 x29)) || (iNe x30 x31)) || (iNe x32 (x3.length : Int))) || (iNe x33 x34))) = true) rfl (fun hb => ref02_Next_0 _ _ (of_t hx36 hb))] rfl rfl (fun hb => ⟨⟨hb, rfl⟩, ⟨hb, rfl⟩, trivial⟩) ?_
    refine WL.run 2 tt_ok sg0 rfl rfl ⟨by first | exact id | exact fun h => by rw [h]; rfl | simp_all, trivial⟩ ?_
    obtain ⟨x37, hx37, H⟩ := of_bind H
    refine WL.sect 5 48 false tt_ok [PSig.at' bits_Set_Pick_f ((!((((((!(x26 == x27)) || (iNe x28 x29)) || (iNe x30 x31)) || (iNe x32 (x3.length : Int))) || (iNe x33 x34)) || (iNe x35 x36))) = true) rfl (fun hb => bits_Set_Pick_0 _ _ (of_t hx37 hb))] rfl rfl (fun hb => ⟨⟨hb, rfl⟩, trivial⟩) ?_
    refine WL.run 1 tt_ok sg0 rfl rfl ⟨by first | exact id | exact fun h => by rw [h]; rfl | simp_all, trivial⟩ ?_
    refine WL.nil ?_
    refine QT.n ?_
    refine WC.cond rfl (fun h38 => ?_) (fun h38 => ?_)
    · replace H := of_t H h38
      refine WC.seq ?_
      refine WC.region ?_
      refine WL.run 1 tt_ok sg0 rfl rfl trivial ?_
      refine WL.nil ?_
      refine QT.n ?_
      refine WC.ret ?_
      refine QT.r ?_
      cases H
      exact Ends.auto rfl rfl rfl trivial
    replace H := of_f H h38
    refine WC.skip ?_
    refine QT.n ?_
    refine WC.seq ?_
    refine WC.region ?_
    refine WL.run 1 tt_ok sg0 rfl rfl trivial ?_
    obtain ⟨x39, hx39, H⟩ := of_bind H
    refine WL.call [] (bits_Set_List_0 _ hx39) bits_Set_List_f rfl rfl trivial rfl rfl rfl ?_
    refine WL.run 1 tt_ok sg0 rfl rfl trivial ?_
    obtain ⟨x40, hx40, H⟩ := of_bind H
    refine WL.call [] (law02_same_0 _ _ hx40) law02_same_f rfl rfl trivial rfl rfl rfl ?_
    refine WL.run 1 tt_ok sg0 rfl rfl trivial ?_
    refine WL.split (g := 89) rfl (fun h41 => ?_) (fun h41 => ?_)
    · replace H := of_t H h41
      refine WL.geff 190 4 true 89 tt_ok et_ok eg0 rfl rfl rfl rfl rfl rfl trivial ?_
      refine WL.grun 1 4 true 89 tt_ok sg0 rfl rfl rfl rfl trivial ?_
      refine WL.row 190 (([] : List Int).map enc_i64) rfl rfl rfl ?_
      obtain ⟨g42, H⟩ := of_need H
      refine WL.gappT 4 true 89 enc_i64 ([] : List Int) ((a2.take (200 : Int).toNat).drop (0 : Int).toNat) tt_ok et_ok rfl rfl (fun _ => rfl) (fun _ => rfl) rfl rfl rfl rfl (nCap_ok g42) rfl rfl rfl rfl rfl rfl rfl rfl ?_
      refine WL.freezeT 190 enc_i64 (([] : List Int) ++ ((a2.take (200 : Int).toNat).drop (0 : Int).toNat)) rfl rfl rfl rfl ?_
      obtain ⟨x43, hx43, H⟩ := of_bind H
      refine WL.gcall [] (bits_Of_0 _ hx43) bits_Of_f rfl rfl trivial rfl rfl rfl rfl rfl rfl ?_
      refine WL.grun 1 4 true 89 tt_ok sg0 rfl rfl rfl rfl trivial ?_
      obtain ⟨x44, hx44, H⟩ := of_bind H
      refine WL.gcall [] (ref02_Of_0 _ hx44) ref02_Of_f rfl rfl trivial rfl rfl rfl rfl rfl rfl ?_
      refine WL.grun 1 4 true 89 tt_ok sg0 rfl rfl rfl rfl trivial ?_
      refine WL.pickT rfl rfl rfl rfl rfl rfl ?_
      refine WL.run 1 tt_ok sg0 rfl rfl trivial ?_
      obtain ⟨x45, hx45, H⟩ := of_bind H
      refine WL.sect 1 13 true tt_ok [PSig.at' law02_lives_f ((iEq x43 x44) = true) rfl (fun hb => law02_lives_0  (of_t hx45 hb))] rfl rfl (fun hb => ⟨⟨hb, rfl⟩, trivial⟩) ?_
      refine WL.run 2 tt_ok sg0 rfl rfl ⟨by first | exact id | exact fun h => by rw [h]; rfl | simp_all, trivial⟩ ?_
      refine WL.nil ?_
      refine QT.n ?_
      refine WC.ret ?_
      cases H
      exact Ends.auto rfl rfl rfl trivial
    · replace H := of_f H h41
      refine WL.gskips 7 4 true 89 rfl rfl rfl rfl ?_
      refine WL.pickF rfl rfl rfl rfl rfl rfl ?_
      refine WL.run 1 tt_ok sg0 rfl rfl trivial ?_
      refine WL.gskips 1 13 true 98 rfl rfl rfl rfl ?_
      refine WL.pickF rfl rfl rfl rfl rfl rfl ?_
      refine WL.run 1 tt_ok sg0 rfl rfl trivial ?_
      refine WL.nil ?_
      refine QT.n ?_
      refine WC.ret ?_
      cases H
      exact Ends.auto rfl rfl rfl trivial
  replace H := of_f H h1
  refine WC.skip ?_
  refine QT.n ?_
  refine WC.seq ?_
  refine WC.region ?_
  refine WL.run 2 tt_ok sg0 rfl rfl trivial ?_
  obtain ⟨x46, hx46, H⟩ := of_bind H
  refine WL.call [] (ref02_List_0 _ hx46) ref02_List_f rfl rfl trivial rfl rfl rfl ?_
  refine WL.run 2 tt_ok sg0 rfl rfl trivial ?_
  refine WL.nil ?_
  refine QT.n ?_
  refine WC.seq ?_
  refine WC.region ?_
  refine WL.run 1 tt_ok sg0 rfl rfl trivial ?_
  refine WL.nil ?_
  refine QT.n ?_
  refine WC.seq ?_
  refine WC.seq ?_
  refine WC.region ?_
  refine WL.run 3 tt_ok sg0 rfl rfl trivial ?_
  refine WL.sect 4 2 true tt_ok sg0 rfl rfl (fun _ => trivial) ?_
  refine WL.run 1 tt_ok sg0 rfl rfl ⟨by first | exact id | exact fun h => by rw [h]; rfl | simp_all, trivial⟩ ?_
  refine WL.nil ?_
  refine QT.n ?_
  refine WC.cond rfl (fun h47 => ?_) (fun h47 => ?_)
  · replace H := of_t H h47
    refine WC.region ?_
    obtain ⟨g48, H⟩ := of_need H
    refine WL.run 5 tt_ok sg0 rfl rfl ⟨⟨(nIn_ok g48).1, (nIn_ok g48).2, rfl⟩, trivial⟩ ?_
    refine WL.nil ?_
    refine QT.n ?_
    refine WC.seq ?_
    refine WC.seq ?_
    refine WC.region ?_
    refine WL.run 2 tt_ok sg0 rfl rfl trivial ?_
    obtain ⟨x49, hx49, H⟩ := of_bind H
    refine WL.call [] (bits_Set_Has_0 _ _ hx49) bits_Set_Has_f rfl rfl trivial rfl rfl rfl ?_
    refine WL.run 2 tt_ok sg0 rfl rfl trivial ?_
    obtain ⟨x50, hx50, H⟩ := of_bind H
    refine WL.call [] (ref02_Has_0 _ _ hx50) ref02_Has_f rfl rfl trivial rfl rfl rfl ?_
    refine WL.run 2 tt_ok sg0 rfl rfl trivial ?_
    obtain ⟨x51, hx51, H⟩ := of_bind H
    obtain ⟨x52, hx52, H⟩ := of_bind H
    refine WL.sect 7 7 false tt_ok [PSig.at' bits_Set_With_f ((!(!(x49 == x50))) = true) rfl (fun hb => bits_Set_With_0 _ _ (of_t hx51 hb)), PSig.at' ref02_With_f ((!(!(x49 == x50))) = true) rfl (fun hb => ref02_With_0 _ _ (of_t hx52 hb))] rfl rfl (fun hb => ⟨⟨hb, rfl⟩, ⟨hb, rfl⟩, trivial⟩) ?_
    refine WL.run 2 tt_ok sg0 rfl rfl ⟨by first | exact id | exact fun h => by rw [h]; rfl | simp_all, trivial⟩ ?_
    obtain ⟨x53, hx53, H⟩ := of_bind H
    obtain ⟨x54, hx54, H⟩ := of_bind H
    refine WL.sect 7 16 false tt_ok [PSig.at' bits_Set_Without_f ((!((!(x49 == x50)) || (iNe x51 x52))) = true) rfl (fun hb => bits_Set_Without_0 _ _ (of_t hx53 hb)), PSig.at' ref02_Without_f ((!((!(x49 == x50)) || (iNe x51 x52))) = true) rfl (fun hb => ref02_Without_0 _ _ (of_t hx54 hb))] rfl rfl (fun hb => ⟨⟨hb, rfl⟩, ⟨hb, rfl⟩, trivial⟩) ?_
    refine WL.run 2 tt_ok sg0 rfl rfl ⟨by first | exact id | exact fun h => by rw [h]; rfl | simp_all, trivial⟩ ?_
    obtain ⟨x55, hx55, H⟩ := of_bind H
    refine WL.sect 5 25 false tt_ok [PSig.at' bits_Set_Count_f ((!(((!(x49 == x50)) || (iNe x51 x52)) || (iNe x53 x54))) = true) rfl (fun hb => bits_Set_Count_0 _ (of_t hx55 hb))] rfl rfl (fun hb => ⟨⟨hb, rfl⟩, trivial⟩) ?_
    refine WL.run 2 tt_ok sg0 rfl rfl ⟨by first | exact id | exact fun h => by rw [h]; rfl | simp_all, trivial⟩ ?_
    obtain ⟨x56, hx56, H⟩ := of_bind H
    obtain ⟨x57, hx57, H⟩ := of_bind H
    refine WL.sect 5 32 false tt_ok [PSig.at' bits_Set_First_f ((!((((!(x49 == x50)) || (iNe x51 x52)) || (iNe x53 x54)) || (iNe x55 (x46.length : Int)))) = true) rfl (fun hb => bits_Set_First_0 _ (of_t hx56 hb)), PSig.at' ref02_Next_f ((!((((!(x49 == x50)) || (iNe x51 x52)) || (iNe x53 x54)) || (iNe x55 (x46.length : Int)))) = true) rfl (fun hb => ref02_Next_0 _ _ (of_t hx57 hb))] rfl rfl (fun hb => ⟨⟨hb, rfl⟩, ⟨hb, rfl⟩, trivial⟩) ?_
    refine WL.run 2 tt_ok sg0 rfl rfl ⟨by first | exact id | exact fun h => by rw [h]; rfl | simp_all, trivial⟩ ?_
    obtain ⟨x58, hx58, H⟩ := of_bind H
    obtain ⟨x59, hx59, H⟩ := of_bind H
    refine WL.sect 7 39 false tt_ok [PSig.at' bits_Set_Next_f ((!(((((!(x49 == x50)) || (iNe x51 x52)) || (iNe x53 x54)) || (iNe x55 (x46.length : Int))) || (iNe x56 x57))) = true) rfl (fun hb => bits_Set_Next_0 _ _ (of_t hx58 hb)), PSig.at' ref02_Next_f ((!(((((!(x49 == x50)) || (iNe x51 x52)) || (iNe x53 x54)) || (iNe x55 (x46.length : Int))) || (iNe x56 x57))) = true) rfl (fun hb => ref02_Next_0 _ _ (of_t hx59 hb))] rfl rfl (fun hb => ⟨⟨hb, rfl⟩, ⟨hb, rfl⟩, trivial⟩) ?_
    refine WL.run 2 tt_ok sg0 rfl rfl ⟨by first | exact id | exact fun h => by rw [h]; rfl | simp_all, trivial⟩ ?_
    obtain ⟨x60, hx60, H⟩ := of_bind H
    refine WL.sect 5 48 false tt_ok [PSig.at' bits_Set_Pick_f ((!((((((!(x49 == x50)) || (iNe x51 x52)) || (iNe x53 x54)) || (iNe x55 (x46.length : Int))) || (iNe x56 x57)) || (iNe x58 x59))) = true) rfl (fun hb => bits_Set_Pick_0 _ _ (of_t hx60 hb))] rfl rfl (fun hb => ⟨⟨hb, rfl⟩, trivial⟩) ?_
    refine WL.run 1 tt_ok sg0 rfl rfl ⟨by first | exact id | exact fun h => by rw [h]; rfl | simp_all, trivial⟩ ?_
    refine WL.nil ?_
    refine QT.n ?_
    refine WC.cond rfl (fun h61 => ?_) (fun h61 => ?_)
    · replace H := of_t H h61
      refine WC.seq ?_
      refine WC.region ?_
      refine WL.run 1 tt_ok sg0 rfl rfl trivial ?_
      refine WL.nil ?_
      refine QT.n ?_
      refine WC.ret ?_
      refine QT.r ?_
      cases H
      exact Ends.auto rfl rfl rfl trivial
    replace H := of_f H h61
    refine WC.skip ?_
    refine QT.n ?_
    refine WC.seq ?_
    refine WC.region ?_
    refine WL.run 1 tt_ok sg0 rfl rfl trivial ?_
    obtain ⟨x62, hx62, H⟩ := of_bind H
    refine WL.call [] (bits_Set_List_0 _ hx62) bits_Set_List_f rfl rfl trivial rfl rfl rfl ?_
    refine WL.run 1 tt_ok sg0 rfl rfl trivial ?_
    obtain ⟨x63, hx63, H⟩ := of_bind H
    refine WL.call [] (law02_same_0 _ _ hx63) law02_same_f rfl rfl trivial rfl rfl rfl ?_
    refine WL.run 1 tt_ok sg0 rfl rfl trivial ?_
    refine WL.split (g := 89) rfl (fun h64 => ?_) (fun h64 => ?_)
    · replace H := of_t H h64
      refine WL.geff 190 4 true 89 tt_ok et_ok eg0 rfl rfl rfl rfl rfl rfl trivial ?_
      refine WL.grun 1 4 true 89 tt_ok sg0 rfl rfl rfl rfl trivial ?_
      refine WL.row 190 (([] : List Int).map enc_i64) rfl rfl rfl ?_
      obtain ⟨g65, H⟩ := of_need H
      refine WL.gappT 4 true 89 enc_i64 ([] : List Int) a2 tt_ok et_ok rfl rfl (fun _ => rfl) (fun _ => rfl) rfl rfl rfl rfl (nCap_ok g65) rfl rfl rfl rfl rfl rfl rfl rfl ?_
      refine WL.freezeT 190 enc_i64 (([] : List Int) ++ a2) rfl rfl rfl rfl ?_
      obtain ⟨x66, hx66, H⟩ := of_bind H
      refine WL.gcall [] (bits_Of_0 _ hx66) bits_Of_f rfl rfl trivial rfl rfl rfl rfl rfl rfl ?_
      refine WL.grun 1 4 true 89 tt_ok sg0 rfl rfl rfl rfl trivial ?_
      obtain ⟨x67, hx67, H⟩ := of_bind H
      refine WL.gcall [] (ref02_Of_0 _ hx67) ref02_Of_f rfl rfl trivial rfl rfl rfl rfl rfl rfl ?_
      refine WL.grun 1 4 true 89 tt_ok sg0 rfl rfl rfl rfl trivial ?_
      refine WL.pickT rfl rfl rfl rfl rfl rfl ?_
      refine WL.run 1 tt_ok sg0 rfl rfl trivial ?_
      obtain ⟨x68, hx68, H⟩ := of_bind H
      refine WL.sect 1 13 true tt_ok [PSig.at' law02_lives_f ((iEq x66 x67) = true) rfl (fun hb => law02_lives_0  (of_t hx68 hb))] rfl rfl (fun hb => ⟨⟨hb, rfl⟩, trivial⟩) ?_
      refine WL.run 2 tt_ok sg0 rfl rfl ⟨by first | exact id | exact fun h => by rw [h]; rfl | simp_all, trivial⟩ ?_
      refine WL.nil ?_
      refine QT.n ?_
      refine WC.ret ?_
      cases H
      exact Ends.auto rfl rfl rfl trivial
    · replace H := of_f H h64
      refine WL.gskips 7 4 true 89 rfl rfl rfl rfl ?_
      refine WL.pickF rfl rfl rfl rfl rfl rfl ?_
      refine WL.run 1 tt_ok sg0 rfl rfl trivial ?_
      refine WL.gskips 1 13 true 98 rfl rfl rfl rfl ?_
      refine WL.pickF rfl rfl rfl rfl rfl rfl ?_
      refine WL.run 1 tt_ok sg0 rfl rfl trivial ?_
      refine WL.nil ?_
      refine QT.n ?_
      refine WC.ret ?_
      cases H
      exact Ends.auto rfl rfl rfl trivial
  replace H := of_f H h47
  refine WC.skip ?_
  refine QT.n ?_
  refine WC.seq ?_
  refine WC.seq ?_
  refine WC.region ?_
  refine WL.run 2 tt_ok sg0 rfl rfl trivial ?_
  obtain ⟨x69, hx69, H⟩ := of_bind H
  refine WL.call [] (bits_Set_Has_0 _ _ hx69) bits_Set_Has_f rfl rfl trivial rfl rfl rfl ?_
  refine WL.run 2 tt_ok sg0 rfl rfl trivial ?_
  obtain ⟨x70, hx70, H⟩ := of_bind H
  refine WL.call [] (ref02_Has_0 _ _ hx70) ref02_Has_f rfl rfl trivial rfl rfl rfl ?_
  refine WL.run 2 tt_ok sg0 rfl rfl trivial ?_
  obtain ⟨x71, hx71, H⟩ := of_bind H
  obtain ⟨x72, hx72, H⟩ := of_bind H
  refine WL.sect 7 7 false tt_ok [PSig.at' bits_Set_With_f ((!(!(x69 == x70))) = true) rfl (fun hb => bits_Set_With_0 _ _ (of_t hx71 hb)), PSig.at' ref02_With_f ((!(!(x69 == x70))) = true) rfl (fun hb => ref02_With_0 _ _ (of_t hx72 hb))] rfl rfl (fun hb => ⟨⟨hb, rfl⟩, ⟨hb, rfl⟩, trivial⟩) ?_
  refine WL.run 2 tt_ok sg0 rfl rfl ⟨by first | exact id | exact fun h => by rw [h]; rfl | simp_all, trivial⟩ ?_
  obtain ⟨x73, hx73, H⟩ := of_bind H
  obtain ⟨x74, hx74, H⟩ := of_bind H
  refine WL.sect 7 16 false tt_ok [PSig.at' bits_Set_Without_f ((!((!(x69 == x70)) || (iNe x71 x72))) = true) rfl (fun hb => bits_Set_Without_0 _ _ (of_t hx73 hb)), PSig.at' ref02_Without_f ((!((!(x69 == x70)) || (iNe x71 x72))) = true) rfl (fun hb => ref02_Without_0 _ _ (of_t hx74 hb))] rfl rfl (fun hb => ⟨⟨hb, rfl⟩, ⟨hb, rfl⟩, trivial⟩) ?_
  refine WL.run 2 tt_ok sg0 rfl rfl ⟨by first | exact id | exact fun h => by rw [h]; rfl | simp_all, trivial⟩ ?_
  obtain ⟨x75, hx75, H⟩ := of_bind H
  refine WL.sect 5 25 false tt_ok [PSig.at' bits_Set_Count_f ((!(((!(x69 == x70)) || (iNe x71 x72)) || (iNe x73 x74))) = true) rfl (fun hb => bits_Set_Count_0 _ (of_t hx75 hb))] rfl rfl (fun hb => ⟨⟨hb, rfl⟩, trivial⟩) ?_
  refine WL.run 2 tt_ok sg0 rfl rfl ⟨by first | exact id | exact fun h => by rw [h]; rfl | simp_all, trivial⟩ ?_
  obtain ⟨x76, hx76, H⟩ := of_bind H
  obtain ⟨x77, hx77, H⟩ := of_bind H
  refine WL.sect 5 32 false tt_ok [PSig.at' bits_Set_First_f ((!((((!(x69 == x70)) || (iNe x71 x72)) || (iNe x73 x74)) || (iNe x75 (x46.length : Int)))) = true) rfl (fun hb => bits_Set_First_0 _ (of_t hx76 hb)), PSig.at' ref02_Next_f ((!((((!(x69 == x70)) || (iNe x71 x72)) || (iNe x73 x74)) || (iNe x75 (x46.length : Int)))) = true) rfl (fun hb => ref02_Next_0 _ _ (of_t hx77 hb))] rfl rfl (fun hb => ⟨⟨hb, rfl⟩, ⟨hb, rfl⟩, trivial⟩) ?_
  refine WL.run 2 tt_ok sg0 rfl rfl ⟨by first | exact id | exact fun h => by rw [h]; rfl | simp_all, trivial⟩ ?_
  obtain ⟨x78, hx78, H⟩ := of_bind H
  obtain ⟨x79, hx79, H⟩ := of_bind H
  refine WL.sect 7 39 false tt_ok [PSig.at' bits_Set_Next_f ((!(((((!(x69 == x70)) || (iNe x71 x72)) || (iNe x73 x74)) || (iNe x75 (x46.length : Int))) || (iNe x76 x77))) = true) rfl (fun hb => bits_Set_Next_0 _ _ (of_t hx78 hb)), PSig.at' ref02_Next_f ((!(((((!(x69 == x70)) || (iNe x71 x72)) || (iNe x73 x74)) || (iNe x75 (x46.length : Int))) || (iNe x76 x77))) = true) rfl (fun hb => ref02_Next_0 _ _ (of_t hx79 hb))] rfl rfl (fun hb => ⟨⟨hb, rfl⟩, ⟨hb, rfl⟩, trivial⟩) ?_
  refine WL.run 2 tt_ok sg0 rfl rfl ⟨by first | exact id | exact fun h => by rw [h]; rfl | simp_all, trivial⟩ ?_
  obtain ⟨x80, hx80, H⟩ := of_bind H
  refine WL.sect 5 48 false tt_ok [PSig.at' bits_Set_Pick_f ((!((((((!(x69 == x70)) || (iNe x71 x72)) || (iNe x73 x74)) || (iNe x75 (x46.length : Int))) || (iNe x76 x77)) || (iNe x78 x79))) = true) rfl (fun hb => bits_Set_Pick_0 _ _ (of_t hx80 hb))] rfl rfl (fun hb => ⟨⟨hb, rfl⟩, trivial⟩) ?_
  refine WL.run 1 tt_ok sg0 rfl rfl ⟨by first | exact id | exact fun h => by rw [h]; rfl | simp_all, trivial⟩ ?_
  refine WL.nil ?_
  refine QT.n ?_
  refine WC.cond rfl (fun h81 => ?_) (fun h81 => ?_)
  · replace H := of_t H h81
    refine WC.seq ?_
    refine WC.region ?_
    refine WL.run 1 tt_ok sg0 rfl rfl trivial ?_
    refine WL.nil ?_
    refine QT.n ?_
    refine WC.ret ?_
    refine QT.r ?_
    cases H
    exact Ends.auto rfl rfl rfl trivial
  replace H := of_f H h81
  refine WC.skip ?_
  refine QT.n ?_
  refine WC.seq ?_
  refine WC.region ?_
  refine WL.run 1 tt_ok sg0 rfl rfl trivial ?_
  obtain ⟨x82, hx82, H⟩ := of_bind H
  refine WL.call [] (bits_Set_List_0 _ hx82) bits_Set_List_f rfl rfl trivial rfl rfl rfl ?_
  refine WL.run 1 tt_ok sg0 rfl rfl trivial ?_
  obtain ⟨x83, hx83, H⟩ := of_bind H
  refine WL.call [] (law02_same_0 _ _ hx83) law02_same_f rfl rfl trivial rfl rfl rfl ?_
  refine WL.run 1 tt_ok sg0 rfl rfl trivial ?_
  refine WL.split (g := 89) rfl (fun h84 => ?_) (fun h84 => ?_)
  · replace H := of_t H h84
    refine WL.geff 190 4 true 89 tt_ok et_ok eg0 rfl rfl rfl rfl rfl rfl trivial ?_
    refine WL.grun 1 4 true 89 tt_ok sg0 rfl rfl rfl rfl trivial ?_
    refine WL.row 190 (([] : List Int).map enc_i64) rfl rfl rfl ?_
    obtain ⟨g85, H⟩ := of_need H
    refine WL.gappT 4 true 89 enc_i64 ([] : List Int) a2 tt_ok et_ok rfl rfl (fun _ => rfl) (fun _ => rfl) rfl rfl rfl rfl (nCap_ok g85) rfl rfl rfl rfl rfl rfl rfl rfl ?_
    refine WL.freezeT 190 enc_i64 (([] : List Int) ++ a2) rfl rfl rfl rfl ?_
    obtain ⟨x86, hx86, H⟩ := of_bind H
    refine WL.gcall [] (bits_Of_0 _ hx86) bits_Of_f rfl rfl trivial rfl rfl rfl rfl rfl rfl ?_
    refine WL.grun 1 4 true 89 tt_ok sg0 rfl rfl rfl rfl trivial ?_
    obtain ⟨x87, hx87, H⟩ := of_bind H
    refine WL.gcall [] (ref02_Of_0 _ hx87) ref02_Of_f rfl rfl trivial rfl rfl rfl rfl rfl rfl ?_
    refine WL.grun 1 4 true 89 tt_ok sg0 rfl rfl rfl rfl trivial ?_
    refine WL.pickT rfl rfl rfl rfl rfl rfl ?_
    refine WL.run 1 tt_ok sg0 rfl rfl trivial ?_
    obtain ⟨x88, hx88, H⟩ := of_bind H
    refine WL.sect 1 13 true tt_ok [PSig.at' law02_lives_f ((iEq x86 x87) = true) rfl (fun hb => law02_lives_0  (of_t hx88 hb))] rfl rfl (fun hb => ⟨⟨hb, rfl⟩, trivial⟩) ?_
    refine WL.run 2 tt_ok sg0 rfl rfl ⟨by first | exact id | exact fun h => by rw [h]; rfl | simp_all, trivial⟩ ?_
    refine WL.nil ?_
    refine QT.n ?_
    refine WC.ret ?_
    cases H
    exact Ends.auto rfl rfl rfl trivial
  · replace H := of_f H h84
    refine WL.gskips 7 4 true 89 rfl rfl rfl rfl ?_
    refine WL.pickF rfl rfl rfl rfl rfl rfl ?_
    refine WL.run 1 tt_ok sg0 rfl rfl trivial ?_
    refine WL.gskips 1 13 true 98 rfl rfl rfl rfl ?_
    refine WL.pickF rfl rfl rfl rfl rfl rfl ?_
    refine WL.run 1 tt_ok sg0 rfl rfl trivial ?_
    refine WL.nil ?_
    refine QT.n ?_
    refine WC.ret ?_
    cases H
    exact Ends.auto rfl rfl rfl trivial
theorem law02_BitsTells_f : hasFunc Tryd.prog 6 Tryd.f6 := ⟨Tryd.func6, rfl, by kernel_rfl⟩

end Go.Proofs.YtjahbgdjejgkpaaDoor.W
