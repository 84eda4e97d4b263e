/- Each Go function comes to what its plain function gives, where that gives something. -/
import Derived.Test.YtjahbgdjejgkpaaDoorPF
import Derived.Test.YtjahbgdjejgkpaaDoorProg
import Derived.Test.YtjahbgdjejgkpaaDoorXErr
import Derived.Test.YtjahbgdjejgkpaaDoorXMak
import Derived.Test.YtjahbgdjejgkpaaDoorXShelf
namespace Go.Proofs.YtjahbgdjejgkpaaDoor.W
open Go Go.RowKit LJ
set_option linter.unusedVariables false
set_option linter.unusedSimpArgs false
set_option maxRecDepth 10000
/-- The types that the walks meet. -/
def tt : List (Nat × TK) := [(3, .int .i64), (4, .bool), (5, .int .u8), (9, .str), (22, .int .u64), (23, .int .u64), (31, .slice 3 1), (51, .slice 9 1), (54, .one), (57, .ptr), (58, .slice 5 1), (60, .struct 2 [(0, 1, true), (1, 1, true)] [.nilp, .nils]), (65, .arr 64 64 5 1), (68, .ptr), (77, .one)]
theorem tt_ok : ttOK Tryd.prog tt = true := by kernel_rfl
/-- Elements of the slices that are appended to: cells, bytes. -/
def et : List (Nat × Nat × Nat) := [(3, 1, 8), (5, 1, 1), (9, 1, 16)]
theorem et_ok : etOK Tryd.prog et = true := by kernel_rfl
theorem eb_ok : byteB Tryd.prog 5 = true := by kernel_rfl
def sg0 : List (PSig Tryd.prog) := []
def eg0 : List (ESig Tryd.prog) := []
/-! ### logjam/logjamref02.List -/
theorem ref02_List_0 (a0 : Int) {r : List Int} (H : ref02_List a0 = some r) : LJ.Spec Tryd.prog 15 [.d (.int .u64 a0)] [] (.d (slT enc_i64 r)) [] := by
  refine LJ.Spec.code Tryd.func15 rfl 20 rfl rfl [] rfl fun w0 F0 S0 B0 => ?_
  unfold ref02_List at H
  refine WC.seq ?_
  refine WC.region ?_
  refine WL.run 1 tt_ok sg0 rfl rfl trivial ?_
  refine WL.nil ?_
  refine QT.n ?_
  refine WC.seq ?_
  refine WC.region ?_
  refine WL.eff 105 tt_ok et_ok eg0 rfl rfl rfl trivial ?_
  refine WL.run 1 tt_ok sg0 rfl rfl trivial ?_
  refine WL.nil ?_
  refine QT.n ?_
  refine WC.seq ?_
  refine WC.seq ?_
  refine WC.region ?_
  refine WL.run 1 tt_ok sg0 rfl rfl trivial ?_
  refine WL.nil ?_
  refine QT.n ?_
  refine WC.block ?_
  refine WC.loop (ι := {x : Nat × (Int × Int × (List Int)) // ref02_List_l2 x.1 x.2 = some r}) (fun x => [(0, .d (.int .u64 x.1.2.1)), (3, .own 105), (4, .d (.int .i64 x.1.2.2.1))]) (fun x => [(105, .row 3 1 (x.1.2.2.2.map enc_i64))]) (fun x => x.1.1) ⟨(fuel, (a0, 0, ([] : List Int))), H⟩ (Less.mk' ⟨rfl, rfl, rfl, trivial⟩ ⟨rfl, trivial⟩) fun x => ?_
  obtain ⟨⟨k2, s1⟩, H⟩ := x
  rcases k2 with _ | k2
  · exact of_none H
  rw [ref02_List_l2] at H
  refine WC.seq ?_
  refine WC.seq ?_
  refine WC.region ?_
  refine WL.run 2 tt_ok sg0 rfl rfl trivial ?_
  refine WL.nil ?_
  refine QT.n ?_
  refine WC.cond rfl (fun h3 => ?_) (fun h3 => ?_)
  · replace H := of_t H h3
    refine WC.skip ?_
    refine QT.n ?_
    refine WC.seq ?_
    refine WC.block ?_
    refine WC.seq ?_
    refine WC.seq ?_
    refine WC.region ?_
    refine WL.run 3 tt_ok sg0 rfl rfl trivial ?_
    refine WL.nil ?_
    refine QT.n ?_
    refine WC.cond rfl (fun h4 => ?_) (fun h4 => ?_)
    · replace H := of_t H h4
      refine WC.region ?_
      refine WL.run 2 tt_ok sg0 rfl rfl trivial ?_
      refine WL.eff 115 tt_ok et_ok eg0 rfl rfl rfl trivial ?_
      refine WL.freezeT 115 enc_i64 ([s1.2.1] : List Int) rfl rfl rfl rfl ?_
      obtain ⟨g5, H⟩ := of_need H
      refine WL.appT enc_i64 s1.2.2 ([s1.2.1] : List Int) tt_ok et_ok rfl rfl (fun _ => rfl) (fun _ => rfl) rfl rfl rfl rfl (nCap_ok g5) rfl rfl rfl rfl rfl ?_
      refine WL.run 1 tt_ok sg0 rfl rfl trivial ?_
      refine WL.nil ?_
      refine QT.n ?_
      refine WC.region ?_
      refine WL.run 3 tt_ok sg0 rfl rfl trivial ?_
      refine WL.nil ?_
      refine QB.n (QT.n ?_)
      refine WC.region ?_
      refine WL.run 3 tt_ok sg0 rfl rfl trivial ?_
      refine WL.nil ?_
      refine QT.n ?_
      exact ⟨⟨(k2, (IntKind.u64.wrap (Int.tdiv s1.1 2), IntKind.i64.wrap (s1.2.1 + 1), s1.2.2 ++ ([s1.2.1] : List Int))), H⟩, Nat.lt_succ_self _, Less.mk' ⟨rfl, rfl, rfl, trivial⟩ ⟨rfl, trivial⟩⟩
    replace H := of_f H h4
    refine WC.skip ?_
    refine QT.n ?_
    refine WC.region ?_
    refine WL.run 3 tt_ok sg0 rfl rfl trivial ?_
    refine WL.nil ?_
    refine QB.n (QT.n ?_)
    refine WC.region ?_
    refine WL.run 3 tt_ok sg0 rfl rfl trivial ?_
    refine WL.nil ?_
    refine QT.n ?_
    exact ⟨⟨(k2, (IntKind.u64.wrap (Int.tdiv s1.1 2), IntKind.i64.wrap (s1.2.1 + 1), s1.2.2)), H⟩, Nat.lt_succ_self _, Less.mk' ⟨rfl, rfl, rfl, trivial⟩ ⟨rfl, trivial⟩⟩
  replace H := of_f H h3
  refine WC.exit ?_
  refine QT.x (QT.x (QB.hit (QT.n ?_)))
  refine WC.seq ?_
  refine WC.region ?_
  refine WL.run 2 tt_ok sg0 rfl rfl trivial ?_
  refine WL.nil ?_
  refine QT.n ?_
  refine WC.freezeT 105 enc_i64 s1.2.2 rfl rfl rfl rfl ?_
  refine WC.ret ?_
  cases H
  exact Ends.auto rfl rfl rfl trivial
theorem ref02_List_f : hasFunc Tryd.prog 15 Tryd.f15 := ⟨Tryd.func15, rfl, by kernel_rfl⟩

/-! ### logjam/logjamref02.Has -/
theorem ref02_Has_0 (a0 : Int) (a1 : Int) {r : Bool} (H : ref02_Has a0 a1 = some r) : LJ.Spec Tryd.prog 18 [.d (.int .u64 a0), .d (.int .i64 a1)] [] (.d (.bool r)) [] := by
  refine LJ.Spec.code Tryd.func18 rfl 22 rfl rfl [] rfl fun w0 F0 S0 B0 => ?_
  unfold ref02_Has at H
  refine WC.seq ?_
  refine WC.region ?_
  refine WL.run 1 tt_ok sg0 rfl rfl trivial ?_
  refine WL.nil ?_
  refine QT.n ?_
  refine WC.seq ?_
  refine WC.seq ?_
  refine WC.region ?_
  refine WL.run 3 tt_ok sg0 rfl rfl trivial ?_
  refine WL.sect 2 2 false tt_ok sg0 rfl rfl (fun _ => trivial) ?_
  refine WL.run 1 tt_ok sg0 rfl rfl ⟨by first | exact id | exact fun h => by rw [h]; rfl | simp_all, trivial⟩ ?_
  refine WL.nil ?_
  refine QT.n ?_
  refine WC.cond rfl (fun h1 => ?_) (fun h1 => ?_)
  · replace H := of_t H h1
    refine WC.seq ?_
    refine WC.region ?_
    refine WL.run 1 tt_ok sg0 rfl rfl trivial ?_
    refine WL.nil ?_
    refine QT.n ?_
    refine WC.ret ?_
    refine QT.r ?_
    cases H
    exact Ends.auto rfl rfl rfl trivial
  replace H := of_f H h1
  refine WC.skip ?_
  refine QT.n ?_
  refine WC.seq ?_
  refine WC.seq ?_
  refine WC.region ?_
  refine WL.run 1 tt_ok sg0 rfl rfl trivial ?_
  refine WL.nil ?_
  refine QT.n ?_
  refine WC.block ?_
  refine WC.loop (ι := {x : Nat × (Int × Int) // ref02_Has_l3 a1 x.1 x.2 = some r}) (fun x => [(0, .d (.int .u64 x.1.2.1)), (1, .d (.int .i64 a1)), (5, .d (.int .i64 x.1.2.2))]) (fun x => []) (fun x => x.1.1) ⟨(fuel, (a0, 0)), H⟩ (Less.mk' ⟨rfl, rfl, rfl, trivial⟩ trivial) fun x => ?_
  obtain ⟨⟨k3, s2⟩, H⟩ := x
  rcases k3 with _ | k3
  · exact of_none H
  rw [ref02_Has_l3] at H
  refine WC.seq ?_
  refine WC.seq ?_
  refine WC.region ?_
  refine WL.run 3 tt_ok sg0 rfl rfl trivial ?_
  refine WL.nil ?_
  refine QT.n ?_
  refine WC.cond rfl (fun h4 => ?_) (fun h4 => ?_)
  · replace H := of_t H h4
    refine WC.skip ?_
    refine QT.n ?_
    refine WC.seq ?_
    refine WC.block ?_
    refine WC.region ?_
    refine WL.run 3 tt_ok sg0 rfl rfl trivial ?_
    refine WL.nil ?_
    refine QB.n (QT.n ?_)
    refine WC.region ?_
    refine WL.run 3 tt_ok sg0 rfl rfl trivial ?_
    refine WL.nil ?_
    refine QT.n ?_
    exact ⟨⟨(k3, (IntKind.u64.wrap (Int.tdiv s2.1 2), IntKind.i64.wrap (s2.2 + 1))), H⟩, Nat.lt_succ_self _, Less.mk' ⟨rfl, rfl, rfl, trivial⟩ trivial⟩
  replace H := of_f H h4
  refine WC.exit ?_
  refine QT.x (QT.x (QB.hit (QT.n ?_)))
  refine WC.seq ?_
  refine WC.region ?_
  refine WL.run 4 tt_ok sg0 rfl rfl trivial ?_
  refine WL.nil ?_
  refine QT.n ?_
  refine WC.ret ?_
  cases H
  exact Ends.auto rfl rfl rfl trivial
theorem ref02_Has_f : hasFunc Tryd.prog 18 Tryd.f18 := ⟨Tryd.func18, rfl, by kernel_rfl⟩

/-! ### logjam/logjamref02.power -/
theorem ref02_power_0 (a0 : Int) {r : Int} (H : ref02_power a0 = some r) : LJ.Spec Tryd.prog 36 [.d (.int .i64 a0)] [] (.d (.int .u64 r)) [] := by
  refine LJ.Spec.code Tryd.func36 rfl 13 rfl rfl [] rfl fun w0 F0 S0 B0 => ?_
  unfold ref02_power at H
  refine WC.seq ?_
  refine WC.region ?_
  refine WL.run 1 tt_ok sg0 rfl rfl trivial ?_
  refine WL.nil ?_
  refine QT.n ?_
  refine WC.seq ?_
  refine WC.region ?_
  refine WL.run 1 tt_ok sg0 rfl rfl trivial ?_
  refine WL.nil ?_
  refine QT.n ?_
  refine WC.seq ?_
  refine WC.seq ?_
  refine WC.region ?_
  refine WL.run 1 tt_ok sg0 rfl rfl trivial ?_
  refine WL.nil ?_
  refine QT.n ?_
  refine WC.block ?_
  refine WC.loop (ι := {x : Nat × (Int × Int) // ref02_power_l2 a0 x.1 x.2 = some r}) (fun x => [(0, .d (.int .i64 a0)), (3, .d (.int .u64 x.1.2.1)), (4, .d (.int .i64 x.1.2.2))]) (fun x => []) (fun x => x.1.1) ⟨(fuel, (1, 0)), H⟩ (Less.mk' ⟨rfl, rfl, rfl, trivial⟩ trivial) fun x => ?_
  obtain ⟨⟨k2, s1⟩, H⟩ := x
  rcases k2 with _ | k2
  · exact of_none H
  rw [ref02_power_l2] at H
  refine WC.seq ?_
  refine WC.seq ?_
  refine WC.region ?_
  refine WL.run 3 tt_ok sg0 rfl rfl trivial ?_
  refine WL.nil ?_
  refine QT.n ?_
  refine WC.cond rfl (fun h3 => ?_) (fun h3 => ?_)
  · replace H := of_t H h3
    refine WC.skip ?_
    refine QT.n ?_
    refine WC.seq ?_
    refine WC.block ?_
    refine WC.region ?_
    refine WL.run 3 tt_ok sg0 rfl rfl trivial ?_
    refine WL.nil ?_
    refine QB.n (QT.n ?_)
    refine WC.region ?_
    refine WL.run 3 tt_ok sg0 rfl rfl trivial ?_
    refine WL.nil ?_
    refine QT.n ?_
    exact ⟨⟨(k2, (IntKind.u64.wrap (s1.1 * 2), IntKind.i64.wrap (s1.2 + 1))), H⟩, Nat.lt_succ_self _, Less.mk' ⟨rfl, rfl, rfl, trivial⟩ trivial⟩
  replace H := of_f H h3
  refine WC.exit ?_
  refine QT.x (QT.x (QB.hit (QT.n ?_)))
  refine WC.seq ?_
  refine WC.region ?_
  refine WL.run 2 tt_ok sg0 rfl rfl trivial ?_
  refine WL.nil ?_
  refine QT.n ?_
  refine WC.ret ?_
  cases H
  exact Ends.auto rfl rfl rfl trivial
theorem ref02_power_f : hasFunc Tryd.prog 36 Tryd.f36 := ⟨Tryd.func36, rfl, by kernel_rfl⟩

/-! ### logjam/logjamref02.With -/
theorem ref02_With_0 (a0 : Int) (a1 : Int) {r : Int} (H : ref02_With a0 a1 = some r) : LJ.Spec Tryd.prog 20 [.d (.int .u64 a0), .d (.int .i64 a1)] [] (.d (.int .u64 r)) [] := by
  refine LJ.Spec.code Tryd.func20 rfl 21 rfl rfl [] rfl fun w0 F0 S0 B0 => ?_
  unfold ref02_With at H
  refine WC.seq ?_
  refine WC.region ?_
  refine WL.run 1 tt_ok sg0 rfl rfl trivial ?_
  refine WL.nil ?_
  refine QT.n ?_
  refine WC.seq ?_
  refine WC.seq ?_
  refine WC.region ?_
  refine WL.run 3 tt_ok sg0 rfl rfl trivial ?_
  refine WL.sect 2 2 false tt_ok sg0 rfl rfl (fun _ => trivial) ?_
  refine WL.run 2 tt_ok sg0 rfl rfl ⟨by first | exact id | exact fun h => by rw [h]; rfl | simp_all, trivial⟩ ?_
  obtain ⟨x1, hx1, H⟩ := of_bind H
  refine WL.sect 3 6 false tt_ok [PSig.at' ref02_Has_f ((!((iLt a1 0) || (iLt 63 a1))) = true) rfl (fun hb => ref02_Has_0 _ _ (of_t hx1 hb))] rfl rfl (fun hb => ⟨⟨hb, rfl⟩, trivial⟩) ?_
  refine WL.run 1 tt_ok sg0 rfl rfl ⟨by first | exact id | exact fun h => by rw [h]; rfl | simp_all, trivial⟩ ?_
  refine WL.nil ?_
  refine QT.n ?_
  refine WC.cond rfl (fun h2 => ?_) (fun h2 => ?_)
  · replace H := of_t H h2
    refine WC.seq ?_
    refine WC.region ?_
    refine WL.run 2 tt_ok sg0 rfl rfl trivial ?_
    refine WL.nil ?_
    refine QT.n ?_
    refine WC.ret ?_
    refine QT.r ?_
    cases H
    exact Ends.auto rfl rfl rfl trivial
  replace H := of_f H h2
  refine WC.skip ?_
  refine QT.n ?_
  refine WC.seq ?_
  refine WC.region ?_
  refine WL.run 2 tt_ok sg0 rfl rfl trivial ?_
  obtain ⟨x3, hx3, H⟩ := of_bind H
  refine WL.call [] (ref02_power_0 _ hx3) ref02_power_f rfl rfl trivial rfl rfl rfl ?_
  refine WL.run 2 tt_ok sg0 rfl rfl trivial ?_
  refine WL.nil ?_
  refine QT.n ?_
  refine WC.ret ?_
  cases H
  exact Ends.auto rfl rfl rfl trivial
theorem ref02_With_f : hasFunc Tryd.prog 20 Tryd.f20 := ⟨Tryd.func20, rfl, by kernel_rfl⟩

/-! ### math/bits.OnesCount64 -/
theorem bits_OnesCount64_0 (a0 : Int) {r : Int} (H : bits_OnesCount64 a0 = some r) : LJ.Spec Tryd.prog 33 [.d (.int .u64 a0)] [] (.d (.int .i64 r)) [] := by
  refine LJ.Spec.code Tryd.func33 rfl 35 rfl rfl [] rfl fun w0 F0 S0 B0 => ?_
  unfold bits_OnesCount64 at H
  refine WC.seq ?_
  refine WC.region ?_
  refine WL.run 1 tt_ok sg0 rfl rfl trivial ?_
  refine WL.nil ?_
  refine QT.n ?_
  refine WC.seq ?_
  refine WC.region ?_
  refine WL.run 7 tt_ok sg0 rfl rfl trivial ?_
  refine WL.nil ?_
  refine QT.n ?_
  refine WC.seq ?_
  refine WC.region ?_
  refine WL.run 7 tt_ok sg0 rfl rfl trivial ?_
  refine WL.nil ?_
  refine QT.n ?_
  refine WC.seq ?_
  refine WC.region ?_
  refine WL.run 6 tt_ok sg0 rfl rfl trivial ?_
  refine WL.nil ?_
  refine QT.n ?_
  refine WC.seq ?_
  refine WC.region ?_
  refine WL.run 5 tt_ok sg0 rfl rfl trivial ?_
  refine WL.nil ?_
  refine QT.n ?_
  refine WC.seq ?_
  refine WC.region ?_
  refine WL.run 5 tt_ok sg0 rfl rfl trivial ?_
  refine WL.nil ?_
  refine QT.n ?_
  refine WC.seq ?_
  refine WC.region ?_
  refine WL.run 5 tt_ok sg0 rfl rfl trivial ?_
  refine WL.nil ?_
  refine QT.n ?_
  refine WC.seq ?_
  refine WC.region ?_
  refine WL.run 4 tt_ok sg0 rfl rfl trivial ?_
  refine WL.nil ?_
  refine QT.n ?_
  refine WC.ret ?_
  cases H
  exact Ends.auto rfl rfl rfl trivial
theorem bits_OnesCount64_f : hasFunc Tryd.prog 33 Tryd.f33 := ⟨Tryd.func33, rfl, by kernel_rfl⟩

/-! ### (logjam/bits.Set).Count -/
theorem bits_Set_Count_0 (a0 : Int) {r : Int} (H : bits_Set_Count a0 = some r) : LJ.Spec Tryd.prog 10 [.d (.int .u64 a0)] [] (.d (.int .i64 r)) [] := by
  refine LJ.Spec.code Tryd.func10 rfl 5 rfl rfl [] rfl fun w0 F0 S0 B0 => ?_
  unfold bits_Set_Count at H
  refine WC.seq ?_
  refine WC.region ?_
  refine WL.run 1 tt_ok sg0 rfl rfl trivial ?_
  refine WL.nil ?_
  refine QT.n ?_
  refine WC.seq ?_
  refine WC.region ?_
  refine WL.run 1 tt_ok sg0 rfl rfl trivial ?_
  obtain ⟨x1, hx1, H⟩ := of_bind H
  refine WL.call [] (bits_OnesCount64_0 _ hx1) bits_OnesCount64_f rfl rfl trivial rfl rfl rfl ?_
  refine WL.run 1 tt_ok sg0 rfl rfl trivial ?_
  refine WL.nil ?_
  refine QT.n ?_
  refine WC.ret ?_
  cases H
  exact Ends.auto rfl rfl rfl trivial
theorem bits_Set_Count_f : hasFunc Tryd.prog 10 Tryd.f10 := ⟨Tryd.func10, rfl, by kernel_rfl⟩

/-! ### logjam/bits.one -/
theorem bits_one_0 (a0 : Int) {r : Int} (H : bits_one a0 = some r) : LJ.Spec Tryd.prog 34 [.d (.int .i64 a0)] [] (.d (.int .u64 r)) [] := by
  refine LJ.Spec.code Tryd.func34 rfl 11 rfl rfl [] rfl fun w0 F0 S0 B0 => ?_
  unfold bits_one at H
  refine WC.seq ?_
  refine WC.region ?_
  refine WL.run 1 tt_ok sg0 rfl rfl trivial ?_
  refine WL.nil ?_
  refine QT.n ?_
  refine WC.seq ?_
  refine WC.seq ?_
  refine WC.region ?_
  refine WL.run 3 tt_ok sg0 rfl rfl trivial ?_
  refine WL.sect 2 2 false tt_ok sg0 rfl rfl (fun _ => trivial) ?_
  refine WL.run 1 tt_ok sg0 rfl rfl ⟨by first | exact id | exact fun h => by rw [h]; rfl | simp_all, trivial⟩ ?_
  refine WL.nil ?_
  refine QT.n ?_
  refine WC.cond rfl (fun h1 => ?_) (fun h1 => ?_)
  · replace H := of_t H h1
    refine WC.seq ?_
    refine WC.region ?_
    refine WL.run 1 tt_ok sg0 rfl rfl trivial ?_
    refine WL.nil ?_
    refine QT.n ?_
    refine WC.ret ?_
    refine QT.r ?_
    cases H
    exact Ends.auto rfl rfl rfl trivial
  replace H := of_f H h1
  refine WC.skip ?_
  refine QT.n ?_
  refine WC.seq ?_
  refine WC.region ?_
  obtain ⟨g2, H⟩ := of_need H
  refine WL.run 3 tt_ok sg0 rfl rfl ⟨(nNn_ok g2), trivial⟩ ?_
  refine WL.nil ?_
  refine QT.n ?_
  refine WC.ret ?_
  cases H
  exact Ends.auto rfl rfl rfl trivial
theorem bits_one_f : hasFunc Tryd.prog 34 Tryd.f34 := ⟨Tryd.func34, rfl, by kernel_rfl⟩

/-! ### logjam/bits.Of -/
theorem bits_Of_0 (a0 : List Int) {r : Int} (H : bits_Of a0 = some r) : LJ.Spec Tryd.prog 26 [.d (slT enc_i64 a0)] [] (.d (.int .u64 r)) [] := by
  refine LJ.Spec.code Tryd.func26 rfl 18 rfl rfl [] rfl fun w0 F0 S0 B0 => ?_
  unfold bits_Of at H
  refine WC.seq ?_
  refine WC.region ?_
  refine WL.run 1 tt_ok sg0 rfl rfl trivial ?_
  refine WL.nil ?_
  refine QT.n ?_
  refine WC.seq ?_
  refine WC.region ?_
  refine WL.run 1 tt_ok sg0 rfl rfl trivial ?_
  refine WL.nil ?_
  refine QT.n ?_
  refine WC.seq ?_
  refine WC.seq ?_
  refine WC.region ?_
  refine WL.run 3 tt_ok sg0 rfl rfl trivial ?_
  refine WL.nil ?_
  refine QT.n ?_
  refine WC.block ?_
  refine WC.loop (ι := {x : Nat × (Int × Int) // bits_Of_l2 a0 x.1 x.2 = some r}) (fun x => [(3, .d (.int .u64 x.1.2.1)), (6, .d (slT enc_i64 a0)), (7, .d (.int .i64 (a0.length : Int))), (8, .d (.int .i64 x.1.2.2))]) (fun x => []) (fun x => x.1.1) ⟨(fuel, (0, 0)), H⟩ (Less.mk' ⟨rfl, rfl, rfl, rfl, trivial⟩ trivial) fun x => ?_
  obtain ⟨⟨k2, s1⟩, H⟩ := x
  rcases k2 with _ | k2
  · exact of_none H
  rw [bits_Of_l2] at H
  refine WC.seq ?_
  refine WC.region ?_
  refine WL.run 1 tt_ok sg0 rfl rfl trivial ?_
  refine WL.nil ?_
  refine QT.n ?_
  refine WC.seq ?_
  refine WC.cond rfl (fun h3 => ?_) (fun h3 => ?_)
  · replace H := of_t H h3
    refine WC.skip ?_
    refine QT.n ?_
    refine WC.seq ?_
    refine WC.block ?_
    refine WC.seq ?_
    refine WC.region ?_
    obtain ⟨g4, H⟩ := of_need H
    refine WL.run 3 tt_ok sg0 rfl rfl ⟨⟨(nIn_ok g4).1, (nIn_ok g4).2, rfl⟩, trivial⟩ ?_
    refine WL.nil ?_
    refine QT.n ?_
    refine WC.region ?_
    refine WL.run 2 tt_ok sg0 rfl rfl trivial ?_
    obtain ⟨x5, hx5, H⟩ := of_bind H
    refine WL.call [] (bits_one_0 _ hx5) bits_one_f rfl rfl trivial rfl rfl rfl ?_
    refine WL.run 2 tt_ok sg0 rfl rfl trivial ?_
    refine WL.nil ?_
    refine QB.n (QT.n ?_)
    refine WC.region ?_
    refine WL.run 2 tt_ok sg0 rfl rfl trivial ?_
    refine WL.nil ?_
    refine QT.n ?_
    exact ⟨⟨(k2, (Go.bits .or .u64 s1.1 x5, IntKind.i64.wrap (s1.2 + 1))), H⟩, Nat.lt_succ_self _, Less.mk' ⟨rfl, rfl, rfl, rfl, trivial⟩ trivial⟩
  replace H := of_f H h3
  refine WC.exit ?_
  refine QT.x (QT.x (QB.hit (QT.n ?_)))
  refine WC.seq ?_
  refine WC.region ?_
  refine WL.run 2 tt_ok sg0 rfl rfl trivial ?_
  refine WL.nil ?_
  refine QT.n ?_
  refine WC.ret ?_
  cases H
  exact Ends.auto rfl rfl rfl trivial
theorem bits_Of_f : hasFunc Tryd.prog 26 Tryd.f26 := ⟨Tryd.func26, rfl, by kernel_rfl⟩

/-! ### math/bits.TrailingZeros64 -/
theorem bits_TrailingZeros64_0 (a0 : Int) {r : Int} (H : bits_TrailingZeros64 a0 = some r) : LJ.Spec Tryd.prog 35 [.d (.int .u64 a0)] [] (.d (.int .i64 r)) [] := by
  refine LJ.Spec.code Tryd.func35 rfl 14 rfl rfl [] rfl fun w0 F0 S0 B0 => ?_
  unfold bits_TrailingZeros64 at H
  refine WC.seq ?_
  refine WC.region ?_
  refine WL.run 1 tt_ok sg0 rfl rfl trivial ?_
  refine WL.nil ?_
  refine QT.n ?_
  refine WC.seq ?_
  refine WC.seq ?_
  refine WC.region ?_
  refine WL.run 2 tt_ok sg0 rfl rfl trivial ?_
  refine WL.nil ?_
  refine QT.n ?_
  refine WC.cond rfl (fun h1 => ?_) (fun h1 => ?_)
  · replace H := of_t H h1
    refine WC.seq ?_
    refine WC.region ?_
    refine WL.run 1 tt_ok sg0 rfl rfl trivial ?_
    refine WL.nil ?_
    refine QT.n ?_
    refine WC.ret ?_
    refine QT.r ?_
    cases H
    exact Ends.auto rfl rfl rfl trivial
  replace H := of_f H h1
  refine WC.skip ?_
  refine QT.n ?_
  refine WC.seq ?_
  refine WC.region ?_
  refine WL.run 6 tt_ok sg0 rfl rfl trivial ?_
  obtain ⟨g2, H⟩ := of_need H
  refine WL.yv (LJ.Y.idxElpA 64 (fun k => .int .u8 (G_math_bits_deBruijn64tab.getD k default)) ((IntKind.u64.wrap ((Go.bits .and .u64 a0 (IntKind.u64.wrap (0 - a0))) * 285870213051353865)) / 2 ^ min (58 : Int).toNat IntKind.u64.bits) (by kernel_rfl) rfl rfl rfl gl_0_take (nIn_ok g2)) rfl rfl rfl ?_
  refine WL.run 3 tt_ok sg0 rfl rfl trivial ?_
  refine WL.nil ?_
  refine QT.n ?_
  refine WC.ret ?_
  cases H
  exact Ends.auto rfl rfl rfl trivial
theorem bits_TrailingZeros64_f : hasFunc Tryd.prog 35 Tryd.f35 := ⟨Tryd.func35, rfl, by kernel_rfl⟩

/-! ### (logjam/bits.Set).First -/
theorem bits_Set_First_0 (a0 : Int) {r : Int} (H : bits_Set_First a0 = some r) : LJ.Spec Tryd.prog 14 [.d (.int .u64 a0)] [] (.d (.int .i64 r)) [] := by
  refine LJ.Spec.code Tryd.func14 rfl 7 rfl rfl [] rfl fun w0 F0 S0 B0 => ?_
  unfold bits_Set_First at H
  refine WC.seq ?_
  refine WC.region ?_
  refine WL.run 1 tt_ok sg0 rfl rfl trivial ?_
  refine WL.nil ?_
  refine QT.n ?_
  refine WC.seq ?_
  refine WC.seq ?_
  refine WC.region ?_
  refine WL.run 2 tt_ok sg0 rfl rfl trivial ?_
  refine WL.nil ?_
  refine QT.n ?_
  refine WC.cond rfl (fun h1 => ?_) (fun h1 => ?_)
  · replace H := of_t H h1
    refine WC.seq ?_
    refine WC.region ?_
    refine WL.run 1 tt_ok sg0 rfl rfl trivial ?_
    refine WL.nil ?_
    refine QT.n ?_
    refine WC.ret ?_
    refine QT.r ?_
    cases H
    exact Ends.auto rfl rfl rfl trivial
  replace H := of_f H h1
  refine WC.skip ?_
  refine QT.n ?_
  refine WC.seq ?_
  refine WC.region ?_
  refine WL.run 1 tt_ok sg0 rfl rfl trivial ?_
  obtain ⟨x2, hx2, H⟩ := of_bind H
  refine WL.call [] (bits_TrailingZeros64_0 _ hx2) bits_TrailingZeros64_f rfl rfl trivial rfl rfl rfl ?_
  refine WL.run 1 tt_ok sg0 rfl rfl trivial ?_
  refine WL.nil ?_
  refine QT.n ?_
  refine WC.ret ?_
  cases H
  exact Ends.auto rfl rfl rfl trivial
theorem bits_Set_First_f : hasFunc Tryd.prog 14 Tryd.f14 := ⟨Tryd.func14, rfl, by kernel_rfl⟩

/-! ### (logjam/bits.Set).List -/
theorem bits_Set_List_0 (a0 : Int) {r : List Int} (H : bits_Set_List a0 = some r) : LJ.Spec Tryd.prog 25 [.d (.int .u64 a0)] [] (.d (slT enc_i64 r)) [] := by
  refine LJ.Spec.code Tryd.func25 rfl 19 rfl rfl [] rfl fun w0 F0 S0 B0 => ?_
  unfold bits_Set_List at H
  refine WC.seq ?_
  refine WC.region ?_
  refine WL.run 1 tt_ok sg0 rfl rfl trivial ?_
  refine WL.nil ?_
  refine QT.n ?_
  refine WC.seq ?_
  refine WC.region ?_
  refine WL.run 1 tt_ok sg0 rfl rfl trivial ?_
  obtain ⟨x1, hx1, H⟩ := of_bind H
  refine WL.call [] (bits_Set_Count_0 _ hx1) bits_Set_Count_f rfl rfl trivial rfl rfl rfl ?_
  obtain ⟨g2, H⟩ := of_need H
  refine WL.makeC (r := 106) enc_i64 (0 : Int) x1 tt_ok et_ok rfl rfl rfl rfl rfl rfl rfl (nMk_ok g2) rfl rfl rfl rfl ?_
  refine WL.run 1 tt_ok sg0 rfl rfl trivial ?_
  refine WL.nil ?_
  refine QT.n ?_
  refine WC.seq ?_
  refine WC.block ?_
  refine WC.loop (ι := {x : Nat × (Int × (List Int)) // bits_Set_List_l4 x.1 x.2 = some r}) (fun x => [(0, .d (.int .u64 x.1.2.1)), (3, .own 106)]) (fun x => [(106, .row 3 1 (x.1.2.2.map enc_i64))]) (fun x => x.1.1) ⟨(fuel, (a0, ([] : List Int))), H⟩ (Less.mk' ⟨rfl, rfl, trivial⟩ ⟨rfl, trivial⟩) fun x => ?_
  obtain ⟨⟨k4, s3⟩, H⟩ := x
  rcases k4 with _ | k4
  · exact of_none H
  rw [bits_Set_List_l4] at H
  refine WC.seq ?_
  refine WC.seq ?_
  refine WC.region ?_
  refine WL.run 2 tt_ok sg0 rfl rfl trivial ?_
  refine WL.nil ?_
  refine QT.n ?_
  refine WC.cond rfl (fun h5 => ?_) (fun h5 => ?_)
  · replace H := of_t H h5
    refine WC.skip ?_
    refine QT.n ?_
    refine WC.seq ?_
    refine WC.block ?_
    refine WC.region ?_
    refine WL.run 2 tt_ok sg0 rfl rfl trivial ?_
    obtain ⟨x6, hx6, H⟩ := of_bind H
    refine WL.call [] (bits_Set_First_0 _ hx6) bits_Set_First_f rfl rfl trivial rfl rfl rfl ?_
    refine WL.eff 116 tt_ok et_ok eg0 rfl rfl rfl trivial ?_
    refine WL.freezeT 116 enc_i64 ([x6] : List Int) rfl rfl rfl rfl ?_
    obtain ⟨g7, H⟩ := of_need H
    refine WL.appT enc_i64 s3.2 ([x6] : List Int) tt_ok et_ok rfl rfl (fun _ => rfl) (fun _ => rfl) rfl rfl rfl rfl (nCap_ok g7) rfl rfl rfl rfl rfl ?_
    refine WL.run 1 tt_ok sg0 rfl rfl trivial ?_
    refine WL.nil ?_
    refine QB.n (QT.n ?_)
    refine WC.region ?_
    refine WL.run 5 tt_ok sg0 rfl rfl trivial ?_
    refine WL.nil ?_
    refine QT.n ?_
    exact ⟨⟨(k4, (Go.bits .and .u64 s3.1 (IntKind.u64.wrap (s3.1 - 1)), s3.2 ++ ([x6] : List Int))), H⟩, Nat.lt_succ_self _, Less.mk' ⟨rfl, rfl, trivial⟩ ⟨rfl, trivial⟩⟩
  replace H := of_f H h5
  refine WC.exit ?_
  refine QT.x (QT.x (QB.hit (QT.n ?_)))
  refine WC.seq ?_
  refine WC.region ?_
  refine WL.run 2 tt_ok sg0 rfl rfl trivial ?_
  refine WL.nil ?_
  refine QT.n ?_
  refine WC.freezeT 106 enc_i64 s3.2 rfl rfl rfl rfl ?_
  refine WC.ret ?_
  cases H
  exact Ends.auto rfl rfl rfl trivial
theorem bits_Set_List_f : hasFunc Tryd.prog 25 Tryd.f25 := ⟨Tryd.func25, rfl, by kernel_rfl⟩

/-! ### (*strings.Builder).copyCheck -/
theorem strings_Builder_copyCheck_0 (a0 : T_strings_Builder) {r : T_strings_Builder} (H : strings_Builder_copyCheck a0 = some r) : LJ.Spec Tryd.prog 47 [.ptr 0 0] [(0, .box 60 [.optp a0.addr 0 0, .own 1]), (1, .row 5 1 (rowOf a0.buf))] (.tup []) [(1, .row 5 1 (rowOf r.buf)), (0, .box 60 [.optp r.addr 0 0, .own 1])] := by
  refine LJ.Spec.code Tryd.func47 rfl 20 rfl rfl [0] rfl fun w0 F0 S0 B0 => ?_
  unfold strings_Builder_copyCheck at H
  refine WC.seq ?_
  refine WC.region ?_
  refine WL.run 4 tt_ok sg0 rfl rfl trivial ?_
  refine WL.yv (LJ.Y.oeql rfl rfl rfl (by kernel_rfl)) rfl rfl rfl ?_
  refine WL.nil ?_
  refine QT.n ?_
  refine WC.cond rfl (fun h1 => ?_) (fun h1 => ?_)
  · replace H := of_t H h1
    refine WC.region ?_
    refine WL.run 2 tt_ok sg0 rfl rfl trivial ?_
    refine WL.yv (LJ.Y.toUns 60 rfl rfl rfl rfl (by kernel_rfl) (by kernel_rfl) (by kernel_rfl)) rfl rfl rfl ?_
    refine WL.yv (LJ.Y.noEsc rfl rfl Tryd.func57 (by kernel_rfl) (by kernel_rfl) (by kernel_rfl) (by kernel_rfl)) rfl rfl rfl ?_
    refine WL.yv (LJ.Y.fromUns 60 rfl rfl rfl (by kernel_rfl) (by kernel_rfl) (by kernel_rfl) (by kernel_rfl)) rfl rfl rfl ?_
    refine WL.run 2 tt_ok sg0 rfl rfl trivial ?_
    refine WL.eff 0 tt_ok et_ok eg0 rfl rfl rfl trivial ?_
    refine WL.nil ?_
    cases H
    exact Ends.auton rfl rfl rfl ⟨rfl, rfl, trivial⟩
  replace H := of_f H h1
  refine WC.seq ?_
  refine WC.region ?_
  refine WL.run 5 tt_ok sg0 rfl rfl trivial ?_
  refine WL.yv (LJ.Y.oneq rfl rfl rfl (by kernel_rfl) (by kernel_rfl)) rfl rfl rfl ?_
  refine WL.nil ?_
  refine QT.n ?_
  refine WC.cond rfl (fun h2 => ?_) (fun h2 => ?_)
  · replace H := of_t H h2
    exact of_none H
  replace H := of_f H h2
  refine WC.skip ?_
  cases H
  exact Ends.auton rfl rfl rfl ⟨rfl, rfl, trivial⟩
theorem strings_Builder_copyCheck_s (n0 n1 : Nat) (hn : nodupB [n0, n1] = true) (a0 : T_strings_Builder) {r : T_strings_Builder} (H : strings_Builder_copyCheck a0 = some r) : LJ.Spec Tryd.prog 47 [.ptr n0 0] [(n0, .box 60 [.optp a0.addr n0 0, .own n1]), (n1, .row 5 1 (rowOf a0.buf))] (.tup []) [(n1, .row 5 1 (rowOf r.buf)), (n0, .box 60 [.optp r.addr n0 0, .own n1])] :=
  Spec.names [n0, n1] hn rfl rfl (strings_Builder_copyCheck_0 a0 H)
theorem strings_Builder_copyCheck_f : hasFunc Tryd.prog 47 Tryd.f47 := ⟨Tryd.func47, rfl, by kernel_rfl⟩

/-! ### (*strings.Builder).WriteByte -/
theorem strings_Builder_WriteByte_0 (a0 : T_strings_Builder) (a1 : Int) {r : Unit × T_strings_Builder} (H : strings_Builder_WriteByte a0 a1 = some r) : LJ.Spec Tryd.prog 39 [.ptr 0 0, .d (.int .u8 a1)] [(0, .box 60 [.optp a0.addr 0 0, .own 1]), (1, .row 5 1 (rowOf a0.buf))] (.d (.nili)) [(1, .row 5 1 (rowOf r.2.buf)), (0, .box 60 [.optp r.2.addr 0 0, .own 1])] := by
  refine LJ.Spec.code Tryd.func39 rfl 17 rfl rfl [0] rfl fun w0 F0 S0 B0 => ?_
  unfold strings_Builder_WriteByte at H
  refine WC.seq ?_
  refine WC.region ?_
  refine WL.run 1 tt_ok sg0 rfl rfl trivial ?_
  refine WL.nil ?_
  refine QT.n ?_
  refine WC.seq ?_
  refine WC.region ?_
  refine WL.run 1 tt_ok sg0 rfl rfl trivial ?_
  obtain ⟨x1, hx1, H⟩ := of_bind H
  refine WL.call [1] (strings_Builder_copyCheck_s 0 1 rfl _ hx1) strings_Builder_copyCheck_f rfl rfl ⟨rfl, rfl, trivial⟩ rfl rfl rfl ?_
  refine WL.nil ?_
  refine QT.n ?_
  refine WC.seq ?_
  refine WC.region ?_
  refine WL.run 6 tt_ok sg0 rfl rfl trivial ?_
  refine WL.eff 113 tt_ok et_ok eg0 rfl rfl rfl trivial ?_
  obtain ⟨g2, H⟩ := of_need H
  obtain ⟨g3, H⟩ := of_need H
  refine WL.eff 0 tt_ok et_ok eg0 rfl rfl rfl (appOK_bytes rfl (nCap_ok g2)) ?_
  refine WL.row 1 (rowOf (x1.buf.push (UInt8.ofNat a1.toNat))) rfl (rowOf_one (nIn_ok g3).1 (nIn_ok g3).2) rfl ?_
  refine WL.run 2 tt_ok sg0 rfl rfl trivial ?_
  refine WL.eff 0 tt_ok et_ok eg0 rfl rfl rfl trivial ?_
  refine WL.nil ?_
  refine QT.n ?_
  refine WC.seq ?_
  refine WC.region ?_
  refine WL.run 1 tt_ok sg0 rfl rfl trivial ?_
  refine WL.nil ?_
  refine QT.n ?_
  refine WC.ret ?_
  cases H
  exact Ends.auto rfl rfl rfl ⟨rfl, rfl, trivial⟩
theorem strings_Builder_WriteByte_s (n0 n1 : Nat) (hn : nodupB [n0, n1] = true) (a0 : T_strings_Builder) (a1 : Int) {r : Unit × T_strings_Builder} (H : strings_Builder_WriteByte a0 a1 = some r) : LJ.Spec Tryd.prog 39 [.ptr n0 0, .d (.int .u8 a1)] [(n0, .box 60 [.optp a0.addr n0 0, .own n1]), (n1, .row 5 1 (rowOf a0.buf))] (.d (.nili)) [(n1, .row 5 1 (rowOf r.2.buf)), (n0, .box 60 [.optp r.2.addr n0 0, .own n1])] :=
  Spec.names [n0, n1] hn rfl rfl (strings_Builder_WriteByte_0 a0 a1 H)
theorem strings_Builder_WriteByte_f : hasFunc Tryd.prog 39 Tryd.f39 := ⟨Tryd.func39, rfl, by kernel_rfl⟩

/-! ### strconv.Itoa -/
def ρi : Go.Shelf.Ren := ⟨fun n => cond (Nat.beq n 338) 35 (cond (Nat.beq n 337) 84 (cond (Nat.beq n 320) 81 (cond (Nat.beq n 319) 80 (cond (Nat.beq n 318) 79 (cond (Nat.beq n 317) 77 (cond (Nat.beq n 286) 69 (cond (Nat.beq n 285) 68 (cond (Nat.beq n 284) 67 (cond (Nat.beq n 283) 66 (cond (Nat.beq n 246) 58 (cond (Nat.beq n 243) 48 (cond (Nat.beq n 171) 41 (cond (Nat.beq n 129) 78 (0)))))))))))))), fun n => cond (Nat.beq n 233) 65 (cond (Nat.beq n 232) 111 (cond (Nat.beq n 213) 102 (cond (Nat.beq n 212) 100 (cond (Nat.beq n 173) 92 (cond (Nat.beq n 171) 90 (cond (Nat.beq n 53) 22 (cond (Nat.beq n 51) 101 (cond (Nat.beq n 46) 64 (cond (Nat.beq n 37) 58 (cond (Nat.beq n 20) 20 (cond (Nat.beq n 9) 9 (cond (Nat.beq n 5) 5 (cond (Nat.beq n 4) 4 (cond (Nat.beq n 3) 3 (cond (Nat.beq n 2) 2 (cond (Nat.beq n 0) 0 (0))))))))))))))))), fun n => cond (Nat.beq n 19) 0 (cond (Nat.beq n 18) 7 (cond (Nat.beq n 17) 4 (0)))⟩
set_option maxRecDepth 100000 in
theorem lays171b : Go.Proofs.Lays.n171 Tryd.prog ρi := by
  constructor <;> first | kernel_rfl | (intro w; kernel_rfl) | (intro w; rfl)
set_option maxRecDepth 100000 in
theorem lays171 : Go.Proofs.LaysM.n171 Tryd.prog ρi := by
  apply Go.Proofs.LaysM.n171.mk lays171b <;> kernel_rfl
theorem strconv_Itoa_0 (a0 : Int) {r : ByteArray} (H : strconv_Itoa a0 = some r) : LJ.Spec Tryd.prog 41 [.d (.int .i64 a0)] [] (.d (.str r)) [] := by
  unfold strconv_Itoa at H
  obtain ⟨g1, H⟩ := of_need H
  cases H
  exact Spec.itoa lays171 g1 (by kernel_rfl)
theorem strconv_Itoa_s (a0 : Int) {r : ByteArray} (H : strconv_Itoa a0 = some r) : LJ.Spec Tryd.prog 41 [.d (.int .i64 a0)] [] (.d (.str r)) [] := strconv_Itoa_0 a0 H
theorem strconv_Itoa_f : hasFunc Tryd.prog 41 Tryd.f41 := ⟨Tryd.func41, rfl, by kernel_rfl⟩

/-! ### (*strings.Builder).WriteString -/
theorem strings_Builder_WriteString_0 (a0 : T_strings_Builder) (a1 : ByteArray) {r : Int × Unit × T_strings_Builder} (H : strings_Builder_WriteString a0 a1 = some r) : LJ.Spec Tryd.prog 40 [.ptr 0 0, .d (.str a1)] [(0, .box 60 [.optp a0.addr 0 0, .own 1]), (1, .row 5 1 (rowOf a0.buf))] (.tup [.d (.int .i64 r.1), .d (.nili)]) [(1, .row 5 1 (rowOf r.2.2.buf)), (0, .box 60 [.optp r.2.2.addr 0 0, .own 1])] := by
  refine LJ.Spec.code Tryd.func40 rfl 19 rfl rfl [0] rfl fun w0 F0 S0 B0 => ?_
  unfold strings_Builder_WriteString at H
  refine WC.seq ?_
  refine WC.region ?_
  refine WL.run 2 tt_ok sg0 rfl rfl trivial ?_
  refine WL.nil ?_
  refine QT.n ?_
  refine WC.seq ?_
  refine WC.region ?_
  refine WL.run 1 tt_ok sg0 rfl rfl trivial ?_
  obtain ⟨x1, hx1, H⟩ := of_bind H
  refine WL.call [1] (strings_Builder_copyCheck_s 0 1 rfl _ hx1) strings_Builder_copyCheck_f rfl rfl ⟨rfl, rfl, trivial⟩ rfl rfl rfl ?_
  refine WL.nil ?_
  refine QT.n ?_
  refine WC.seq ?_
  refine WC.region ?_
  refine WL.run 6 tt_ok sg0 rfl rfl trivial ?_
  obtain ⟨g2, H⟩ := of_need H
  refine WL.apps tt_ok eb_ok rfl rfl rfl (apps_ok (nCap_ok g2)) ?_
  refine WL.row 1 (rowOf (x1.buf ++ a1)) rfl (rowOf_append _ _).symm rfl ?_
  refine WL.run 2 tt_ok sg0 rfl rfl trivial ?_
  refine WL.eff 0 tt_ok et_ok eg0 rfl rfl rfl trivial ?_
  refine WL.nil ?_
  refine QT.n ?_
  refine WC.seq ?_
  refine WC.region ?_
  refine WL.run 4 tt_ok sg0 rfl rfl trivial ?_
  refine WL.nil ?_
  refine QT.n ?_
  refine WC.ret ?_
  cases H
  exact Ends.auto rfl rfl rfl ⟨rfl, rfl, trivial⟩
theorem strings_Builder_WriteString_s (n0 n1 : Nat) (hn : nodupB [n0, n1] = true) (a0 : T_strings_Builder) (a1 : ByteArray) {r : Int × Unit × T_strings_Builder} (H : strings_Builder_WriteString a0 a1 = some r) : LJ.Spec Tryd.prog 40 [.ptr n0 0, .d (.str a1)] [(n0, .box 60 [.optp a0.addr n0 0, .own n1]), (n1, .row 5 1 (rowOf a0.buf))] (.tup [.d (.int .i64 r.1), .d (.nili)]) [(n1, .row 5 1 (rowOf r.2.2.buf)), (n0, .box 60 [.optp r.2.2.addr n0 0, .own n1])] :=
  Spec.names [n0, n1] hn rfl rfl (strings_Builder_WriteString_0 a0 a1 H)
theorem strings_Builder_WriteString_f : hasFunc Tryd.prog 40 Tryd.f40 := ⟨Tryd.func40, rfl, by kernel_rfl⟩

/-! ### (*strings.Builder).String -/
def ρb : Go.Shelf.Ren := ⟨fun n => cond (Nat.beq n 169) 42 0, fun n => cond (Nat.beq n 127) 68 (cond (Nat.beq n 72) 60 (cond (Nat.beq n 70) 57 (cond (Nat.beq n 37) 58 (cond (Nat.beq n 9) 9 (cond (Nat.beq n 5) 5 (cond (Nat.beq n 3) 3 (cond (Nat.beq n 0) 0 (0)))))))), fun _ => 0⟩
set_option maxRecDepth 100000 in
theorem lays169 : Go.Proofs.Lays.n169 Tryd.prog ρb := by
  constructor <;> first | kernel_rfl | (intro w; kernel_rfl) | (intro w; rfl)
theorem ext169 : Go.Proofs.Builder.Extra Tryd.prog ρb := by
  constructor <;> first | kernel_rfl | (intro w; kernel_rfl) | (intro w; rfl) | decide | (constructor <;> kernel_rfl)
theorem strings_Builder_String_0 (a0 : T_strings_Builder) {r : ByteArray} (H : strings_Builder_String a0 = some r) : LJ.Spec Tryd.prog 42 [.ptr 0 0] [(0, .box 60 [.optp a0.addr 0 0, .own 1]), (1, .row 5 1 (rowOf a0.buf))] (.d (.str r)) [] := by
  unfold strings_Builder_String at H
  cases H
  exact Spec.bldAny lays169 ext169
theorem strings_Builder_String_s (n0 n1 : Nat) (hn : nodupB [n0, n1] = true) (a0 : T_strings_Builder) {r : ByteArray} (H : strings_Builder_String a0 = some r) : LJ.Spec Tryd.prog 42 [.ptr n0 0] [(n0, .box 60 [.optp a0.addr n0 0, .own n1]), (n1, .row 5 1 (rowOf a0.buf))] (.d (.str r)) [] :=
  Spec.names [n0, n1] hn rfl rfl (strings_Builder_String_0 a0 H)
theorem strings_Builder_String_f : hasFunc Tryd.prog 42 Tryd.f42 := ⟨Tryd.func42, rfl, by kernel_rfl⟩

/-! ### logjam/bits.Text -/
theorem bits_Text_0 (a0 : Int) {r : ByteArray} (H : bits_Text a0 = some r) : LJ.Spec Tryd.prog 30 [.d (.int .u64 a0)] [] (.d (.str r)) [] := by
  refine LJ.Spec.code Tryd.func30 rfl 24 rfl rfl [] rfl fun w0 F0 S0 B0 => ?_
  unfold bits_Text at H
  refine WC.seq ?_
  refine WC.region ?_
  refine WL.run 1 tt_ok sg0 rfl rfl trivial ?_
  refine WL.nil ?_
  refine QT.n ?_
  refine WC.seq ?_
  refine WC.seq ?_
  refine WC.region ?_
  refine WL.run 2 tt_ok sg0 rfl rfl trivial ?_
  refine WL.nil ?_
  refine QT.n ?_
  refine WC.cond rfl (fun h1 => ?_) (fun h1 => ?_)
  · replace H := of_t H h1
    refine WC.seq ?_
    refine WC.region ?_
    refine WL.run 1 tt_ok sg0 rfl rfl trivial ?_
    refine WL.nil ?_
    refine QT.n ?_
    refine WC.ret ?_
    refine QT.r ?_
    cases H
    exact Ends.auto rfl rfl rfl trivial
  replace H := of_f H h1
  refine WC.skip ?_
  refine QT.n ?_
  refine WC.seq ?_
  refine WC.region ?_
  refine WL.alloc 103 tt_ok rfl rfl rfl ?_
  refine WL.nilP 103 0 103 rfl ?_
  refine WL.nilF 103 1 4031 5 1 rfl ?_
  refine WL.row 4031 (rowOf ByteArray.empty) rfl rfl rfl ?_
  refine WL.nil ?_
  refine QT.n ?_
  refine WC.seq ?_
  refine WC.seq ?_
  refine WC.region ?_
  refine WL.run 1 tt_ok sg0 rfl rfl trivial ?_
  obtain ⟨x2, hx2, H⟩ := of_bind H
  refine WL.call [] (bits_Set_List_0 _ hx2) bits_Set_List_f rfl rfl trivial rfl rfl rfl ?_
  refine WL.run 2 tt_ok sg0 rfl rfl trivial ?_
  refine WL.nil ?_
  refine QT.n ?_
  refine WC.block ?_
  refine WC.loop (ι := {x : Nat × (Int × Bool × ByteArray) // bits_Text_l4 x2 x.1 x.2 = some r}) (fun x => [(3, .ptr 103 0), (9, .d (slT enc_i64 x2)), (10, .d (.int .i64 (x2.length : Int))), (11, .d (.int .i64 x.1.2.1))]) (fun x => [(103, .box 60 [.optp x.1.2.2.1 103 0, .own 4031]), (4031, .row 5 1 (rowOf x.1.2.2.2))]) (fun x => x.1.1) ⟨(fuel, (0, false, ByteArray.empty)), H⟩ (Less.mk' ⟨rfl, rfl, rfl, rfl, trivial⟩ ⟨rfl, rfl, trivial⟩) fun x => ?_
  obtain ⟨⟨k4, s3⟩, H⟩ := x
  rcases k4 with _ | k4
  · exact of_none H
  rw [bits_Text_l4] at H
  refine WC.seq ?_
  refine WC.region ?_
  refine WL.run 1 tt_ok sg0 rfl rfl trivial ?_
  refine WL.nil ?_
  refine QT.n ?_
  refine WC.seq ?_
  refine WC.cond rfl (fun h5 => ?_) (fun h5 => ?_)
  · replace H := of_t H h5
    refine WC.skip ?_
    refine QT.n ?_
    refine WC.seq ?_
    refine WC.block ?_
    refine WC.seq ?_
    refine WC.region ?_
    obtain ⟨g6, H⟩ := of_need H
    refine WL.run 5 tt_ok sg0 rfl rfl ⟨⟨(nIn_ok g6).1, (nIn_ok g6).2, rfl⟩, trivial⟩ ?_
    refine WL.nil ?_
    refine QT.n ?_
    refine WC.seq ?_
    refine WC.seq ?_
    refine WC.region ?_
    refine WL.run 2 tt_ok sg0 rfl rfl trivial ?_
    refine WL.nil ?_
    refine QT.n ?_
    refine WC.cond rfl (fun h7 => ?_) (fun h7 => ?_)
    · replace H := of_t H h7
      refine WC.region ?_
      obtain ⟨x8, hx8, H⟩ := of_bind H
      refine WL.call [4031] (strings_Builder_WriteByte_s 103 4031 rfl _ _ hx8) strings_Builder_WriteByte_f rfl rfl ⟨rfl, rfl, trivial⟩ rfl rfl rfl ?_
      refine WL.nil ?_
      refine QT.n ?_
      refine WC.region ?_
      refine WL.run 1 tt_ok sg0 rfl rfl trivial ?_
      obtain ⟨x9, hx9, H⟩ := of_bind H
      refine WL.call [] (strconv_Itoa_0 _ hx9) strconv_Itoa_f rfl rfl trivial rfl rfl rfl ?_
      obtain ⟨x10, hx10, H⟩ := of_bind H
      refine WL.call [4031] (strings_Builder_WriteString_s 103 4031 rfl _ _ hx10) strings_Builder_WriteString_f rfl rfl ⟨rfl, rfl, trivial⟩ rfl rfl rfl ?_
      refine WL.nil ?_
      refine QB.n (QT.n ?_)
      refine WC.region ?_
      refine WL.run 2 tt_ok sg0 rfl rfl trivial ?_
      refine WL.nil ?_
      refine QT.n ?_
      exact ⟨⟨(k4, (IntKind.i64.wrap (s3.1 + 1), x10.2.2.addr, x10.2.2.buf)), H⟩, Nat.lt_succ_self _, Less.mk' ⟨rfl, rfl, rfl, rfl, trivial⟩ ⟨rfl, rfl, trivial⟩⟩
    replace H := of_f H h7
    refine WC.skip ?_
    refine QT.n ?_
    refine WC.region ?_
    refine WL.run 1 tt_ok sg0 rfl rfl trivial ?_
    obtain ⟨x11, hx11, H⟩ := of_bind H
    refine WL.call [] (strconv_Itoa_0 _ hx11) strconv_Itoa_f rfl rfl trivial rfl rfl rfl ?_
    obtain ⟨x12, hx12, H⟩ := of_bind H
    refine WL.call [4031] (strings_Builder_WriteString_s 103 4031 rfl _ _ hx12) strings_Builder_WriteString_f rfl rfl ⟨rfl, rfl, trivial⟩ rfl rfl rfl ?_
    refine WL.nil ?_
    refine QB.n (QT.n ?_)
    refine WC.region ?_
    refine WL.run 2 tt_ok sg0 rfl rfl trivial ?_
    refine WL.nil ?_
    refine QT.n ?_
    exact ⟨⟨(k4, (IntKind.i64.wrap (s3.1 + 1), x12.2.2.addr, x12.2.2.buf)), H⟩, Nat.lt_succ_self _, Less.mk' ⟨rfl, rfl, rfl, rfl, trivial⟩ ⟨rfl, rfl, trivial⟩⟩
  replace H := of_f H h5
  refine WC.exit ?_
  refine QT.x (QT.x (QB.hit (QT.n ?_)))
  refine WC.seq ?_
  refine WC.region ?_
  obtain ⟨x13, hx13, H⟩ := of_bind H
  refine WL.call [] (strings_Builder_String_s 103 4031 rfl _ hx13) strings_Builder_String_f rfl rfl ⟨rfl, rfl, trivial⟩ rfl rfl rfl ?_
  refine WL.run 1 tt_ok sg0 rfl rfl trivial ?_
  refine WL.nil ?_
  refine QT.n ?_
  refine WC.ret ?_
  cases H
  exact Ends.auto rfl rfl rfl trivial
theorem bits_Text_f : hasFunc Tryd.prog 30 Tryd.f30 := ⟨Tryd.func30, rfl, by kernel_rfl⟩

/-! ### logjam/logjamlaw02.lives -/
theorem law02_lives_0  {r : Bool} (H : law02_lives = some r) : LJ.Spec Tryd.prog 11 [] [] (.d (.bool r)) [] := by
  refine LJ.Spec.code Tryd.func11 rfl 32 rfl rfl [] rfl fun w0 F0 S0 B0 => ?_
  unfold law02_lives at H
  refine WC.seq ?_
  refine WC.region ?_
  refine WL.run 1 tt_ok sg0 rfl rfl trivial ?_
  refine WL.nil ?_
  refine QT.n ?_
  refine WC.seq ?_
  refine WC.region ?_
  refine WL.eff 103 tt_ok et_ok eg0 rfl rfl rfl trivial ?_
  refine WL.freezeT 103 enc_i64 ([0, 5, 63, 64, (-1)] : List Int) rfl rfl rfl rfl ?_
  obtain ⟨x1, hx1, H⟩ := of_bind H
  refine WL.call [] (bits_Of_0 _ hx1) bits_Of_f rfl rfl trivial rfl rfl rfl ?_
  refine WL.run 1 tt_ok sg0 rfl rfl trivial ?_
  refine WL.nil ?_
  refine QT.n ?_
  refine WC.seq ?_
  refine WC.region ?_
  refine WL.run 1 tt_ok sg0 rfl rfl trivial ?_
  obtain ⟨x2, hx2, H⟩ := of_bind H
  refine WL.call [] (bits_Set_List_0 _ hx2) bits_Set_List_f rfl rfl trivial rfl rfl rfl ?_
  refine WL.run 1 tt_ok sg0 rfl rfl trivial ?_
  refine WL.nil ?_
  refine QT.n ?_
  refine WC.seq ?_
  refine WC.region ?_
  refine WL.run 4 tt_ok sg0 rfl rfl trivial ?_
  obtain ⟨g3, H⟩ := of_needS H
  refine WL.sect 4 3 true tt_ok sg0 rfl rfl (fun hb => ⟨⟨(nIn_ok (g3 hb)).1, (nIn_ok (g3 hb)).2, rfl⟩, trivial⟩) ?_
  refine WL.run 2 tt_ok sg0 rfl rfl ⟨by first | exact id | exact fun h => by rw [h]; rfl | simp_all, trivial⟩ ?_
  obtain ⟨g4, H⟩ := of_needS H
  refine WL.sect 4 9 true tt_ok sg0 rfl rfl (fun hb => ⟨⟨(nIn_ok (g4 hb)).1, (nIn_ok (g4 hb)).2, rfl⟩, trivial⟩) ?_
  refine WL.run 2 tt_ok sg0 rfl rfl ⟨by first | exact id | exact fun h => by rw [h]; rfl | simp_all, trivial⟩ ?_
  obtain ⟨x5, hx5, H⟩ := of_bind H
  refine WL.sect 3 15 true tt_ok [PSig.at' bits_Set_Count_f ((((iEq (x2.length : Int) 3) && (iEq (x2.getD (1 : Int).toNat default) 5)) && (iEq (x2.getD (2 : Int).toNat default) 63)) = true) rfl (fun hb => bits_Set_Count_0 _ (of_t hx5 hb))] rfl rfl (fun hb => ⟨⟨hb, rfl⟩, trivial⟩) ?_
  refine WL.run 2 tt_ok sg0 rfl rfl ⟨by first | exact id | exact fun h => by rw [h]; rfl | simp_all, trivial⟩ ?_
  obtain ⟨x6, hx6, H⟩ := of_bind H
  refine WL.sect 3 20 true tt_ok [PSig.at' bits_Text_f (((((iEq (x2.length : Int) 3) && (iEq (x2.getD (1 : Int).toNat default) 5)) && (iEq (x2.getD (2 : Int).toNat default) 63)) && (iEq x5 3)) = true) rfl (fun hb => bits_Text_0 _ (of_t hx6 hb))] rfl rfl (fun hb => ⟨⟨hb, rfl⟩, trivial⟩) ?_
  refine WL.run 2 tt_ok sg0 rfl rfl ⟨by first | exact id | exact fun h => by rw [h]; rfl | simp_all, trivial⟩ ?_
  refine WL.nil ?_
  refine QT.n ?_
  refine WC.ret ?_
  cases H
  exact Ends.auto rfl rfl rfl trivial
theorem law02_lives_f : hasFunc Tryd.prog 11 Tryd.f11 := ⟨Tryd.func11, rfl, by kernel_rfl⟩

/-! ### (logjam/bits.Set).With -/
theorem bits_Set_With_0 (a0 : Int) (a1 : Int) {r : Int} (H : bits_Set_With a0 a1 = some r) : LJ.Spec Tryd.prog 19 [.d (.int .u64 a0), .d (.int .i64 a1)] [] (.d (.int .u64 r)) [] := by
  refine LJ.Spec.code Tryd.func19 rfl 9 rfl rfl [] rfl fun w0 F0 S0 B0 => ?_
  unfold bits_Set_With at H
  refine WC.seq ?_
  refine WC.region ?_
  refine WL.run 1 tt_ok sg0 rfl rfl trivial ?_
  refine WL.nil ?_
  refine QT.n ?_
  refine WC.seq ?_
  refine WC.region ?_
  refine WL.run 2 tt_ok sg0 rfl rfl trivial ?_
  obtain ⟨x1, hx1, H⟩ := of_bind H
  refine WL.call [] (bits_one_0 _ hx1) bits_one_f rfl rfl trivial rfl rfl rfl ?_
  refine WL.run 2 tt_ok sg0 rfl rfl trivial ?_
  refine WL.nil ?_
  refine QT.n ?_
  refine WC.ret ?_
  cases H
  exact Ends.auto rfl rfl rfl trivial
theorem bits_Set_With_f : hasFunc Tryd.prog 19 Tryd.f19 := ⟨Tryd.func19, rfl, by kernel_rfl⟩

/-! ### strings.Split -/
def ρs : Go.Shelf.Ren := ⟨fun n => cond (Nat.beq n 314) 83 (cond (Nat.beq n 268) 49 (cond (Nat.beq n 267) 74 (cond (Nat.beq n 266) 82 (cond (Nat.beq n 260) 70 (cond (Nat.beq n 225) 72 (cond (Nat.beq n 224) 73 (cond (Nat.beq n 221) 44 (cond (Nat.beq n 219) 62 (cond (Nat.beq n 218) 61 (cond (Nat.beq n 217) 71 (cond (Nat.beq n 197) 60 (cond (Nat.beq n 195) 59 (cond (Nat.beq n 146) 37 (cond (Nat.beq n 143) 51 (cond (Nat.beq n 138) 50 (0)))))))))))))))), fun n => cond (Nat.beq n 146) 108 (cond (Nat.beq n 139) 107 (cond (Nat.beq n 138) 106 (cond (Nat.beq n 119) 104 (cond (Nat.beq n 105) 81 (cond (Nat.beq n 51) 101 (cond (Nat.beq n 46) 64 (cond (Nat.beq n 31) 51 (cond (Nat.beq n 21) 21 (cond (Nat.beq n 9) 9 (cond (Nat.beq n 5) 5 (cond (Nat.beq n 4) 4 (cond (Nat.beq n 3) 3 (cond (Nat.beq n 0) 0 (0)))))))))))))), fun n => cond (Nat.beq n 4) 6 (cond (Nat.beq n 3) 5 (cond (Nat.beq n 1) 3 (0)))⟩
set_option maxRecDepth 100000 in
theorem lays146 : Go.Proofs.Lays.n146 Tryd.prog ρs := by
  constructor <;> first | kernel_rfl | (intro w; kernel_rfl) | (intro w; rfl)
theorem strings_Split_0 (a0 a1 : ByteArray) {r : List ByteArray} (H : strings_Split a0 a1 = some r) : LJ.Spec Tryd.prog 37 [.d (.str a0), .d (.str a1)] [] (.d (slT enc_str r)) [] := by
  unfold strings_Split at H
  obtain ⟨g1, H⟩ := of_need H
  cases H
  exact Spec.split lays146 (by kernel_rfl) (by kernel_rfl) rfl g1
theorem strings_Split_s (a0 a1 : ByteArray) {r : List ByteArray} (H : strings_Split a0 a1 = some r) : LJ.Spec Tryd.prog 37 [.d (.str a0), .d (.str a1)] [] (.d (slT enc_str r)) [] := strings_Split_0 a0 a1 H
theorem strings_Split_f : hasFunc Tryd.prog 37 Tryd.f37 := ⟨Tryd.func37, rfl, by kernel_rfl⟩

/-! ### strconv.Atoi -/
def ρa : Go.Shelf.Ren := ⟨fun n => cond (Nat.beq n 338) 35 (cond (Nat.beq n 337) 84 (cond (Nat.beq n 322) 76 (cond (Nat.beq n 321) 75 (cond (Nat.beq n 320) 81 (cond (Nat.beq n 319) 80 (cond (Nat.beq n 318) 79 (cond (Nat.beq n 317) 77 (cond (Nat.beq n 316) 64 (cond (Nat.beq n 287) 63 (cond (Nat.beq n 286) 69 (cond (Nat.beq n 285) 68 (cond (Nat.beq n 284) 67 (cond (Nat.beq n 283) 66 (cond (Nat.beq n 282) 56 (cond (Nat.beq n 281) 55 (cond (Nat.beq n 280) 54 (cond (Nat.beq n 279) 53 (cond (Nat.beq n 247) 52 (cond (Nat.beq n 246) 58 (cond (Nat.beq n 245) 46 (cond (Nat.beq n 244) 45 (cond (Nat.beq n 243) 48 (cond (Nat.beq n 205) 65 (cond (Nat.beq n 172) 38 (cond (Nat.beq n 171) 41 (cond (Nat.beq n 129) 78 (0))))))))))))))))))))))))))), fun n => cond (Nat.beq n 233) 65 (cond (Nat.beq n 232) 111 (cond (Nat.beq n 213) 102 (cond (Nat.beq n 212) 100 (cond (Nat.beq n 210) 88 (cond (Nat.beq n 175) 84 (cond (Nat.beq n 173) 92 (cond (Nat.beq n 171) 90 (cond (Nat.beq n 168) 74 (cond (Nat.beq n 167) 71 (cond (Nat.beq n 145) 98 (cond (Nat.beq n 143) 96 (cond (Nat.beq n 127) 68 (cond (Nat.beq n 85) 72 (cond (Nat.beq n 80) 63 (cond (Nat.beq n 76) 55 (cond (Nat.beq n 75) 54 (cond (Nat.beq n 53) 22 (cond (Nat.beq n 51) 101 (cond (Nat.beq n 46) 64 (cond (Nat.beq n 37) 58 (cond (Nat.beq n 21) 21 (cond (Nat.beq n 20) 20 (cond (Nat.beq n 9) 9 (cond (Nat.beq n 5) 5 (cond (Nat.beq n 4) 4 (cond (Nat.beq n 3) 3 (cond (Nat.beq n 2) 2 (cond (Nat.beq n 0) 0 (0))))))))))))))))))))))))))))), fun n => cond (Nat.beq n 19) 0 (cond (Nat.beq n 18) 7 (cond (Nat.beq n 17) 4 (cond (Nat.beq n 16) 2 (cond (Nat.beq n 15) 1 (0)))))⟩
set_option maxRecDepth 100000 in
theorem lays172b : Go.Proofs.Lays.n172 Tryd.prog ρa := by
  constructor <;> first | kernel_rfl | (intro w; kernel_rfl) | (intro w; rfl)
set_option maxRecDepth 100000 in
theorem lays172m : Go.Proofs.LaysM.n172 Tryd.prog ρa := by
  apply Go.Proofs.LaysM.n172.mk lays172b <;> first | kernel_rfl | (intro w; kernel_rfl) | (intro w; rfl)
set_option maxRecDepth 100000 in
theorem lays172 : Go.Proofs.LaysC.n172 Tryd.prog ρa := by
  apply Go.Proofs.LaysC.n172.mk lays172m <;> first | kernel_rfl | (intro w; kernel_rfl) | (intro w; rfl)
theorem strconv_Atoi_0 (a0 : ByteArray) {r : Int × Bool} (H : strconv_Atoi a0 = some r) : LJ.Spec Tryd.prog 38 [.d (.str a0)] [] (.tup [.d (.int .i64 r.1), .d (erD 74 r.2)]) [] := by
  unfold strconv_Atoi at H
  obtain ⟨g1, H⟩ := of_need H
  cases H
  exact Spec.atoi lays172 (by kernel_rfl) (by kernel_rfl) g1
theorem strconv_Atoi_s (a0 : ByteArray) {r : Int × Bool} (H : strconv_Atoi a0 = some r) : LJ.Spec Tryd.prog 38 [.d (.str a0)] [] (.tup [.d (.int .i64 r.1), .d (erD 74 r.2)]) [] := strconv_Atoi_0 a0 H
theorem strconv_Atoi_f : hasFunc Tryd.prog 38 Tryd.f38 := ⟨Tryd.func38, rfl, by kernel_rfl⟩

/-! ### logjam/bits.Parse -/
theorem bits_Parse_0 (a0 : ByteArray) {r : Int × Bool} (H : bits_Parse a0 = some r) : LJ.Spec Tryd.prog 28 [.d (.str a0)] [] (.tup [.d (.int .u64 r.1), .d (.bool r.2)]) [] := by
  refine LJ.Spec.code Tryd.func28 rfl 39 rfl rfl [] rfl fun w0 F0 S0 B0 => ?_
  unfold bits_Parse at H
  refine WC.seq ?_
  refine WC.region ?_
  refine WL.run 2 tt_ok sg0 rfl rfl trivial ?_
  refine WL.nil ?_
  refine QT.n ?_
  refine WC.seq ?_
  refine WC.seq ?_
  refine WC.region ?_
  refine WL.run 2 tt_ok sg0 rfl rfl trivial ?_
  refine WL.nil ?_
  refine QT.n ?_
  refine WC.cond rfl (fun h1 => ?_) (fun h1 => ?_)
  · replace H := of_t H h1
    refine WC.seq ?_
    refine WC.region ?_
    refine WL.run 2 tt_ok sg0 rfl rfl trivial ?_
    refine WL.nil ?_
    refine QT.n ?_
    refine WC.ret ?_
    refine QT.r ?_
    cases H
    exact Ends.auto rfl rfl rfl trivial
  replace H := of_f H h1
  refine WC.skip ?_
  refine QT.n ?_
  refine WC.seq ?_
  refine WC.region ?_
  refine WL.run 1 tt_ok sg0 rfl rfl trivial ?_
  refine WL.nil ?_
  refine QT.n ?_
  refine WC.seq ?_
  refine WC.seq ?_
  refine WC.region ?_
  refine WL.run 1 tt_ok sg0 rfl rfl trivial ?_
  obtain ⟨x2, hx2, H⟩ := of_bind H
  refine WL.call [] (strings_Split_0 _ _ hx2) strings_Split_f rfl rfl trivial rfl rfl rfl ?_
  refine WL.run 2 tt_ok sg0 rfl rfl trivial ?_
  refine WL.nil ?_
  refine QT.n ?_
  refine WC.block ?_
  refine WC.loop (ι := {x : Nat × (Int × Int) // bits_Parse_l4 a0 x2 x.1 x.2 = some r}) (fun x => [(0, .d (.str a0)), (4, .d (.int .u64 x.1.2.1)), (12, .d (slT enc_str x2)), (13, .d (.int .i64 (x2.length : Int))), (14, .d (.int .i64 x.1.2.2))]) (fun x => []) (fun x => x.1.1) ⟨(fuel, (0, 0)), H⟩ (Less.mk' ⟨rfl, rfl, rfl, rfl, rfl, trivial⟩ trivial) fun x => ?_
  obtain ⟨⟨k4, s3⟩, H⟩ := x
  rcases k4 with _ | k4
  · exact of_none H
  rw [bits_Parse_l4] at H
  refine WC.seq ?_
  refine WC.region ?_
  refine WL.run 1 tt_ok sg0 rfl rfl trivial ?_
  refine WL.nil ?_
  refine QT.n ?_
  refine WC.seq ?_
  refine WC.cond rfl (fun h5 => ?_) (fun h5 => ?_)
  · replace H := of_t H h5
    refine WC.skip ?_
    refine QT.n ?_
    refine WC.seq ?_
    refine WC.block ?_
    refine WC.seq ?_
    refine WC.region ?_
    obtain ⟨g6, H⟩ := of_need H
    refine WL.run 3 tt_ok sg0 rfl rfl ⟨⟨(nIn_ok g6).1, (nIn_ok g6).2, rfl⟩, trivial⟩ ?_
    refine WL.nil ?_
    refine QT.n ?_
    refine WC.seq ?_
    refine WC.region ?_
    refine WL.run 1 tt_ok sg0 rfl rfl trivial ?_
    obtain ⟨x7, hx7, H⟩ := of_bind H
    refine WL.call [] (strconv_Atoi_0 _ hx7) strconv_Atoi_f rfl rfl trivial rfl rfl rfl ?_
    refine WL.run 5 tt_ok sg0 rfl rfl trivial ?_
    refine WL.nil ?_
    refine QT.n ?_
    refine WC.seq ?_
    refine WC.seq ?_
    refine WC.region ?_
    refine WL.run 1 tt_ok sg0 rfl rfl trivial ?_
    refine WL.yv (LJ.Y.erNe rfl rfl (by kernel_rfl)) rfl rfl rfl ?_
    refine WL.run 1 tt_ok sg0 rfl rfl trivial ?_
    refine WL.sect 3 2 false tt_ok sg0 rfl rfl (fun _ => trivial) ?_
    refine WL.run 1 tt_ok sg0 rfl rfl ⟨by first | exact id | exact fun h => by rw [h]; rfl | simp_all, trivial⟩ ?_
    refine WL.nil ?_
    refine QT.n ?_
    refine WC.cond rfl (fun h8 => ?_) (fun h8 => ?_)
    · replace H := of_t H h8
      refine WC.seq ?_
      refine WC.region ?_
      refine WL.run 2 tt_ok sg0 rfl rfl trivial ?_
      refine WL.nil ?_
      refine QT.n ?_
      refine WC.ret ?_
      refine QT.r (QB.r (QT.r (QT.r (QB.r (QT.r ?_)))))
      cases H
      exact Ends.auto rfl rfl rfl trivial
    replace H := of_f H h8
    refine WC.skip ?_
    refine QT.n ?_
    refine WC.region ?_
    refine WL.run 2 tt_ok sg0 rfl rfl trivial ?_
    obtain ⟨x9, hx9, H⟩ := of_bind H
    refine WL.call [] (bits_Set_With_0 _ _ hx9) bits_Set_With_f rfl rfl trivial rfl rfl rfl ?_
    refine WL.run 1 tt_ok sg0 rfl rfl trivial ?_
    refine WL.nil ?_
    refine QB.n (QT.n ?_)
    refine WC.region ?_
    refine WL.run 2 tt_ok sg0 rfl rfl trivial ?_
    refine WL.nil ?_
    refine QT.n ?_
    exact ⟨⟨(k4, (x9, IntKind.i64.wrap (s3.2 + 1))), H⟩, Nat.lt_succ_self _, Less.mk' ⟨rfl, rfl, rfl, rfl, rfl, trivial⟩ trivial⟩
  replace H := of_f H h5
  refine WC.exit ?_
  refine QT.x (QT.x (QB.hit (QT.n ?_)))
  refine WC.seq ?_
  refine WC.seq ?_
  refine WC.region ?_
  refine WL.run 1 tt_ok sg0 rfl rfl trivial ?_
  obtain ⟨x10, hx10, H⟩ := of_bind H
  refine WL.call [] (bits_Text_0 _ hx10) bits_Text_f rfl rfl trivial rfl rfl rfl ?_
  refine WL.run 2 tt_ok sg0 rfl rfl trivial ?_
  refine WL.nil ?_
  refine QT.n ?_
  refine WC.cond rfl (fun h11 => ?_) (fun h11 => ?_)
  · replace H := of_t H h11
    refine WC.seq ?_
    refine WC.region ?_
    refine WL.run 2 tt_ok sg0 rfl rfl trivial ?_
    refine WL.nil ?_
    refine QT.n ?_
    refine WC.ret ?_
    refine QT.r ?_
    cases H
    exact Ends.auto rfl rfl rfl trivial
  replace H := of_f H h11
  refine WC.skip ?_
  refine QT.n ?_
  refine WC.seq ?_
  refine WC.region ?_
  refine WL.run 3 tt_ok sg0 rfl rfl trivial ?_
  refine WL.nil ?_
  refine QT.n ?_
  refine WC.ret ?_
  cases H
  exact Ends.auto rfl rfl rfl trivial
theorem bits_Parse_f : hasFunc Tryd.prog 28 Tryd.f28 := ⟨Tryd.func28, rfl, by kernel_rfl⟩

/-! ### logjam/logjamref02.Digits -/
theorem ref02_Digits_rk_f : hasFunc Tryd.prog 43 Tryd.f43 := ⟨Tryd.func43, rfl, by kernel_rfl⟩
theorem ref02_Digits_r_0 : ∀ (k : Nat) (a0 : Int) {r : ByteArray} (H : ref02_Digits_r k a0 = some r), LJ.Spec Tryd.prog 43 [.d (.int .i64 a0)] [] (.d (.str r)) []
  | 0, a0, r, H => by cases H
  | k + 1, a0, r, H => by
    have ref02_Digits_rk_0 : ∀ (a0 : Int) {r : ByteArray} (H : ref02_Digits_r k a0 = some r), LJ.Spec Tryd.prog 43 [.d (.int .i64 a0)] [] (.d (.str r)) [] := fun a0 r H => ref02_Digits_r_0 k a0 H
    refine LJ.Spec.code Tryd.func43 rfl 20 rfl rfl [] rfl fun w0 F0 S0 B0 => ?_
    rw [ref02_Digits_r] at H
    refine WC.seq ?_
    refine WC.region ?_
    refine WL.run 1 tt_ok sg0 rfl rfl trivial ?_
    refine WL.nil ?_
    refine QT.n ?_
    refine WC.seq ?_
    refine WC.seq ?_
    refine WC.region ?_
    refine WL.run 2 tt_ok sg0 rfl rfl trivial ?_
    refine WL.nil ?_
    refine QT.n ?_
    refine WC.cond rfl (fun h1 => ?_) (fun h1 => ?_)
    · replace H := of_t H h1
      refine WC.seq ?_
      refine WC.region ?_
      refine WL.run 3 tt_ok sg0 rfl rfl trivial ?_
      refine WL.eff 108 tt_ok et_ok eg0 rfl rfl rfl trivial ?_
      obtain ⟨g2, H⟩ := of_need H
      refine WL.row 108 (rowOf (ByteArray.empty.push (UInt8.ofNat (IntKind.u8.wrap (IntKind.i64.wrap ((48 : Int) + a0))).toNat))) rfl (rowOf_one (s := .empty) (nIn_ok g2).1 (nIn_ok g2).2) rfl ?_
      refine WL.ownStr (ByteArray.empty.push (UInt8.ofNat (IntKind.u8.wrap (IntKind.i64.wrap ((48 : Int) + a0))).toNat)) tt_ok rfl rfl rfl rfl ?_
      refine WL.run 1 tt_ok sg0 rfl rfl trivial ?_
      refine WL.nil ?_
      refine QT.n ?_
      refine WC.ret ?_
      refine QT.r ?_
      cases H
      exact Ends.auto rfl rfl rfl trivial
    replace H := of_f H h1
    refine WC.skip ?_
    refine QT.n ?_
    refine WC.seq ?_
    obtain ⟨x3_2_1, hx3_2_1, H⟩ := of_bind H
    obtain ⟨g3_8_1, H⟩ := of_need H
    obtain ⟨g3_9_1, H⟩ := of_need H
    refine WC.heldF [(2, .d (.str (x3_2_1 ++ (ByteArray.empty.push (UInt8.ofNat (IntKind.u8.wrap (IntKind.i64.wrap ((48 : Int) + (Int.tmod a0 10)))).toNat)))))] [] (.one 0 true (.one 1 true (.one 3 true (.one 4 true (.one 5 true (.one 6 true (.fork (.one 2 false (.one 7 false (.one 8 false (.one 9 true (.one 10 true .done))))) (.one 7 false (.fork (.one 2 false (.one 8 false (.one 9 true (.one 10 true .done)))) (.one 8 false (.one 2 false (.one 9 true (.one 10 true .done))))))))))))) [] [] rfl (by kernel_rfl) rfl (by kernel_rfl) rfl rfl (fun _ h => h) rfl rfl rfl (fun FK NK wK K => ?_) ?_
    · refine WH.run 6 tt_ok rfl rfl rfl rfl trivial ?_
      refine WH.fork ?_ ?_
      · refine WH.call [] rfl (ref02_Digits_rk_0 _ hx3_2_1) ref02_Digits_rk_f rfl rfl trivial rfl rfl rfl rfl rfl ?_
        refine WH.eff 117 tt_ok et_ok rfl rfl rfl rfl trivial rfl rfl ?_
        refine WH.row 117 (rowOf (ByteArray.empty.push (UInt8.ofNat (IntKind.u8.wrap (IntKind.i64.wrap ((48 : Int) + (Int.tmod a0 10)))).toNat))) rfl (rowOf_one (s := .empty) (nIn_ok g3_8_1).1 (nIn_ok g3_8_1).2) rfl ?_
        refine WH.ownStr (ByteArray.empty.push (UInt8.ofNat (IntKind.u8.wrap (IntKind.i64.wrap ((48 : Int) + (Int.tmod a0 10)))).toNat)) tt_ok rfl rfl rfl rfl rfl rfl rfl ?_
        refine WH.run 2 tt_ok rfl rfl rfl rfl ⟨(nStr_ok g3_9_1), trivial⟩ ?_
        exact WH.nilF rfl (LessW.mk' ⟨AVle.of rfl, trivial⟩ trivial)
      · refine WH.eff 117 tt_ok et_ok rfl rfl rfl rfl trivial rfl rfl ?_
        refine WH.fork ?_ ?_
        · refine WH.call [] rfl (ref02_Digits_rk_0 _ hx3_2_1) ref02_Digits_rk_f rfl rfl trivial rfl rfl rfl rfl rfl ?_
          refine WH.row 117 (rowOf (ByteArray.empty.push (UInt8.ofNat (IntKind.u8.wrap (IntKind.i64.wrap ((48 : Int) + (Int.tmod a0 10)))).toNat))) rfl (rowOf_one (s := .empty) (nIn_ok g3_8_1).1 (nIn_ok g3_8_1).2) rfl ?_
          refine WH.ownStr (ByteArray.empty.push (UInt8.ofNat (IntKind.u8.wrap (IntKind.i64.wrap ((48 : Int) + (Int.tmod a0 10)))).toNat)) tt_ok rfl rfl rfl rfl rfl rfl rfl ?_
          refine WH.run 2 tt_ok rfl rfl rfl rfl ⟨(nStr_ok g3_9_1), trivial⟩ ?_
          exact WH.nilF rfl (LessW.mk' ⟨AVle.of rfl, trivial⟩ trivial)
        · refine WH.row 117 (rowOf (ByteArray.empty.push (UInt8.ofNat (IntKind.u8.wrap (IntKind.i64.wrap ((48 : Int) + (Int.tmod a0 10)))).toNat))) rfl (rowOf_one (s := .empty) (nIn_ok g3_8_1).1 (nIn_ok g3_8_1).2) rfl ?_
          refine WH.ownStr (ByteArray.empty.push (UInt8.ofNat (IntKind.u8.wrap (IntKind.i64.wrap ((48 : Int) + (Int.tmod a0 10)))).toNat)) tt_ok rfl rfl rfl rfl rfl rfl rfl ?_
          refine WH.call [] rfl (ref02_Digits_rk_0 _ hx3_2_1) ref02_Digits_rk_f rfl rfl trivial rfl rfl rfl rfl rfl ?_
          refine WH.run 2 tt_ok rfl rfl rfl rfl ⟨(nStr_ok g3_9_1), trivial⟩ ?_
          exact WH.nilF rfl (LessW.mk' ⟨AVle.of rfl, trivial⟩ trivial)
    · refine QT.n ?_
      refine WC.ret ?_
      cases H
      exact Ends.auto rfl rfl rfl trivial
theorem ref02_Digits_0 (a0 : Int) {r : ByteArray} (H : ref02_Digits a0 = some r) : LJ.Spec Tryd.prog 43 [.d (.int .i64 a0)] [] (.d (.str r)) [] := ref02_Digits_r_0 fuel a0 H
theorem ref02_Digits_f : hasFunc Tryd.prog 43 Tryd.f43 := ⟨Tryd.func43, rfl, by kernel_rfl⟩

/-! ### logjam/logjamref02.Text -/
theorem ref02_Text_0 (a0 : Int) {r : ByteArray} (H : ref02_Text a0 = some r) : LJ.Spec Tryd.prog 31 [.d (.int .u64 a0)] [] (.d (.str r)) [] := by
  refine LJ.Spec.code Tryd.func31 rfl 29 rfl rfl [] rfl fun w0 F0 S0 B0 => ?_
  unfold ref02_Text at H
  refine WC.seq ?_
  refine WC.region ?_
  refine WL.run 1 tt_ok sg0 rfl rfl trivial ?_
  refine WL.nil ?_
  refine QT.n ?_
  refine WC.seq ?_
  refine WC.region ?_
  refine WL.run 1 tt_ok sg0 rfl rfl trivial ?_
  obtain ⟨x1, hx1, H⟩ := of_bind H
  refine WL.call [] (ref02_List_0 _ hx1) ref02_List_f rfl rfl trivial rfl rfl rfl ?_
  refine WL.run 2 tt_ok sg0 rfl rfl trivial ?_
  refine WL.nil ?_
  refine QT.n ?_
  refine WC.seq ?_
  refine WC.seq ?_
  refine WC.region ?_
  refine WL.run 1 tt_ok sg0 rfl rfl trivial ?_
  refine WL.nil ?_
  refine QT.n ?_
  refine WC.block ?_
  refine WC.loop (ι := {x : Nat × (ByteArray × Int) // ref02_Text_l3 x1 x.1 x.2 = some r}) (fun x => [(3, .d (slT enc_i64 x1)), (4, .d (.str x.1.2.1)), (5, .d (.int .i64 x.1.2.2))]) (fun x => []) (fun x => x.1.1) ⟨(fuel, (ByteArray.empty, 0)), H⟩ (Less.mk' ⟨rfl, rfl, rfl, trivial⟩ trivial) fun x => ?_
  obtain ⟨⟨k3, s2⟩, H⟩ := x
  rcases k3 with _ | k3
  · exact of_none H
  rw [ref02_Text_l3] at H
  refine WC.seq ?_
  refine WC.seq ?_
  refine WC.region ?_
  refine WL.run 4 tt_ok sg0 rfl rfl trivial ?_
  refine WL.nil ?_
  refine QT.n ?_
  refine WC.cond rfl (fun h4 => ?_) (fun h4 => ?_)
  · replace H := of_t H h4
    refine WC.skip ?_
    refine QT.n ?_
    refine WC.seq ?_
    refine WC.block ?_
    refine WC.seq ?_
    refine WC.seq ?_
    refine WC.region ?_
    refine WL.run 2 tt_ok sg0 rfl rfl trivial ?_
    refine WL.nil ?_
    refine QT.n ?_
    refine WC.cond rfl (fun h5 => ?_) (fun h5 => ?_)
    · replace H := of_t H h5
      refine WC.region ?_
      obtain ⟨g6, H⟩ := of_need H
      refine WL.run 3 tt_ok sg0 rfl rfl ⟨(nStr_ok g6), trivial⟩ ?_
      refine WL.nil ?_
      refine QT.n ?_
      refine WC.region ?_
      obtain ⟨g7, H⟩ := of_need H
      refine WL.run 5 tt_ok sg0 rfl rfl ⟨⟨(nIn_ok g7).1, (nIn_ok g7).2, rfl⟩, trivial⟩ ?_
      obtain ⟨x8, hx8, H⟩ := of_bind H
      refine WL.call [] (ref02_Digits_0 _ hx8) ref02_Digits_f rfl rfl trivial rfl rfl rfl ?_
      obtain ⟨g9, H⟩ := of_need H
      refine WL.run 2 tt_ok sg0 rfl rfl ⟨(nStr_ok g9), trivial⟩ ?_
      refine WL.nil ?_
      refine QB.n (QT.n ?_)
      refine WC.region ?_
      refine WL.run 3 tt_ok sg0 rfl rfl trivial ?_
      refine WL.nil ?_
      refine QT.n ?_
      exact ⟨⟨(k3, ((s2.1 ++ (⟨#[44]⟩ : ByteArray)) ++ x8, IntKind.i64.wrap (s2.2 + 1))), H⟩, Nat.lt_succ_self _, Less.mk' ⟨rfl, rfl, rfl, trivial⟩ trivial⟩
    replace H := of_f H h5
    refine WC.skip ?_
    refine QT.n ?_
    refine WC.region ?_
    obtain ⟨g10, H⟩ := of_need H
    refine WL.run 5 tt_ok sg0 rfl rfl ⟨⟨(nIn_ok g10).1, (nIn_ok g10).2, rfl⟩, trivial⟩ ?_
    obtain ⟨x11, hx11, H⟩ := of_bind H
    refine WL.call [] (ref02_Digits_0 _ hx11) ref02_Digits_f rfl rfl trivial rfl rfl rfl ?_
    obtain ⟨g12, H⟩ := of_need H
    refine WL.run 2 tt_ok sg0 rfl rfl ⟨(nStr_ok g12), trivial⟩ ?_
    refine WL.nil ?_
    refine QB.n (QT.n ?_)
    refine WC.region ?_
    refine WL.run 3 tt_ok sg0 rfl rfl trivial ?_
    refine WL.nil ?_
    refine QT.n ?_
    exact ⟨⟨(k3, (s2.1 ++ x11, IntKind.i64.wrap (s2.2 + 1))), H⟩, Nat.lt_succ_self _, Less.mk' ⟨rfl, rfl, rfl, trivial⟩ trivial⟩
  replace H := of_f H h4
  refine WC.exit ?_
  refine QT.x (QT.x (QB.hit (QT.n ?_)))
  refine WC.seq ?_
  refine WC.seq ?_
  refine WC.region ?_
  refine WL.run 3 tt_ok sg0 rfl rfl trivial ?_
  refine WL.nil ?_
  refine QT.n ?_
  refine WC.cond rfl (fun h13 => ?_) (fun h13 => ?_)
  · replace H := of_t H h13
    refine WC.seq ?_
    refine WC.region ?_
    refine WL.run 1 tt_ok sg0 rfl rfl trivial ?_
    refine WL.nil ?_
    refine QT.n ?_
    refine WC.ret ?_
    refine QT.r ?_
    cases H
    exact Ends.auto rfl rfl rfl trivial
  replace H := of_f H h13
  refine WC.skip ?_
  refine QT.n ?_
  refine WC.seq ?_
  refine WC.region ?_
  refine WL.run 2 tt_ok sg0 rfl rfl trivial ?_
  refine WL.nil ?_
  refine QT.n ?_
  refine WC.ret ?_
  cases H
  exact Ends.auto rfl rfl rfl trivial
theorem ref02_Text_f : hasFunc Tryd.prog 31 Tryd.f31 := ⟨Tryd.func31, rfl, by kernel_rfl⟩

/-! ### logjam/logjamref02.Parse -/
theorem ref02_Parse_0 (a0 : ByteArray) {r : Int × Bool} (H : ref02_Parse a0 = some r) : LJ.Spec Tryd.prog 29 [.d (.str a0)] [] (.tup [.d (.int .u64 r.1), .d (.bool r.2)]) [] := by
  refine LJ.Spec.code Tryd.func29 rfl 54 rfl rfl [] rfl fun w0 F0 S0 B0 => ?_
  unfold ref02_Parse at H
  refine WC.seq ?_
  refine WC.region ?_
  refine WL.run 2 tt_ok sg0 rfl rfl trivial ?_
  refine WL.nil ?_
  refine QT.n ?_
  refine WC.seq ?_
  refine WC.region ?_
  refine WL.run 3 tt_ok sg0 rfl rfl trivial ?_
  refine WL.nil ?_
  refine QT.n ?_
  refine WC.seq ?_
  refine WC.seq ?_
  refine WC.region ?_
  refine WL.run 1 tt_ok sg0 rfl rfl trivial ?_
  refine WL.nil ?_
  refine QT.n ?_
  refine WC.block ?_
  refine WC.loop (ι := {x : Nat × (Int × Int × Int × Int) // ref02_Parse_l2 a0 x.1 x.2 = some r}) (fun x => [(0, .d (.str a0)), (4, .d (.int .u64 x.1.2.1)), (5, .d (.int .i64 x.1.2.2.1)), (6, .d (.int .i64 x.1.2.2.2.1)), (7, .d (.int .i64 x.1.2.2.2.2))]) (fun x => []) (fun x => x.1.1) ⟨(fuel, (0, 0, 0, 0)), H⟩ (Less.mk' ⟨rfl, rfl, rfl, rfl, rfl, trivial⟩ trivial) fun x => ?_
  obtain ⟨⟨k2, s1⟩, H⟩ := x
  rcases k2 with _ | k2
  · exact of_none H
  rw [ref02_Parse_l2] at H
  refine WC.seq ?_
  refine WC.seq ?_
  refine WC.region ?_
  refine WL.run 4 tt_ok sg0 rfl rfl trivial ?_
  refine WL.nil ?_
  refine QT.n ?_
  refine WC.cond rfl (fun h3 => ?_) (fun h3 => ?_)
  · replace H := of_t H h3
    refine WC.skip ?_
    refine QT.n ?_
    refine WC.seq ?_
    refine WC.block ?_
    refine WC.seq ?_
    refine WC.seq ?_
    refine WC.region ?_
    refine WL.run 5 tt_ok sg0 rfl rfl trivial ?_
    obtain ⟨g4, H⟩ := of_needS H
    refine WL.sect 4 4 true tt_ok sg0 rfl rfl (fun hb => ⟨(nIn_ok (g4 hb)), trivial⟩) ?_
    refine WL.run 2 tt_ok sg0 rfl rfl ⟨by first | exact id | exact fun h => by rw [h]; rfl | simp_all, trivial⟩ ?_
    obtain ⟨g5, H⟩ := of_needS H
    refine WL.sect 4 10 true tt_ok sg0 rfl rfl (fun hb => ⟨(nIn_ok (g5 hb)), trivial⟩) ?_
    refine WL.run 2 tt_ok sg0 rfl rfl ⟨by first | exact id | exact fun h => by rw [h]; rfl | simp_all, trivial⟩ ?_
    refine WL.sect 2 16 true tt_ok sg0 rfl rfl (fun _ => trivial) ?_
    refine WL.run 1 tt_ok sg0 rfl rfl ⟨by first | exact id | exact fun h => by rw [h]; rfl | simp_all, trivial⟩ ?_
    refine WL.nil ?_
    refine QT.n ?_
    refine WC.cond rfl (fun h6 => ?_) (fun h6 => ?_)
    · replace H := of_t H h6
      refine WC.seq ?_
      refine WC.region ?_
      obtain ⟨g7, H⟩ := of_need H
      refine WL.run 12 tt_ok sg0 rfl rfl ⟨(nIn_ok g7), trivial⟩ ?_
      refine WL.nil ?_
      refine QT.n ?_
      refine WC.exit ?_
      refine QT.x (QB.hit (QT.n ?_))
      refine WC.region ?_
      refine WL.run 3 tt_ok sg0 rfl rfl trivial ?_
      refine WL.nil ?_
      refine QT.n ?_
      exact ⟨⟨(k2, (s1.1, IntKind.i64.wrap ((IntKind.i64.wrap ((IntKind.i64.wrap ((10 : Int) * s1.2.1)) + (IntKind.i64.wrap (byteAt a0 s1.2.2.2.toNat)))) - 48), IntKind.i64.wrap (s1.2.2.1 + 1), IntKind.i64.wrap (s1.2.2.2 + 1))), H⟩, Nat.lt_succ_self _, Less.mk' ⟨rfl, rfl, rfl, rfl, rfl, trivial⟩ trivial⟩
    replace H := of_f H h6
    refine WC.skip ?_
    refine QT.n ?_
    refine WC.seq ?_
    refine WC.seq ?_
    refine WC.region ?_
    refine WL.run 2 tt_ok sg0 rfl rfl trivial ?_
    refine WL.nil ?_
    refine QT.n ?_
    refine WC.cond rfl (fun h8 => ?_) (fun h8 => ?_)
    · replace H := of_t H h8
      refine WC.region ?_
      refine WL.run 2 tt_ok sg0 rfl rfl trivial ?_
      obtain ⟨x9, hx9, H⟩ := of_bind H
      refine WL.call [] (ref02_With_0 _ _ hx9) ref02_With_f rfl rfl trivial rfl rfl rfl ?_
      refine WL.run 1 tt_ok sg0 rfl rfl trivial ?_
      refine WL.nil ?_
      refine QT.n ?_
      refine WC.region ?_
      refine WL.run 2 tt_ok sg0 rfl rfl trivial ?_
      refine WL.nil ?_
      refine QB.n (QT.n ?_)
      refine WC.region ?_
      refine WL.run 3 tt_ok sg0 rfl rfl trivial ?_
      refine WL.nil ?_
      refine QT.n ?_
      exact ⟨⟨(k2, (x9, 0, 0, IntKind.i64.wrap (s1.2.2.2 + 1))), H⟩, Nat.lt_succ_self _, Less.mk' ⟨rfl, rfl, rfl, rfl, rfl, trivial⟩ trivial⟩
    replace H := of_f H h8
    refine WC.skip ?_
    refine QT.n ?_
    refine WC.region ?_
    refine WL.run 2 tt_ok sg0 rfl rfl trivial ?_
    refine WL.nil ?_
    refine QB.n (QT.n ?_)
    refine WC.region ?_
    refine WL.run 3 tt_ok sg0 rfl rfl trivial ?_
    refine WL.nil ?_
    refine QT.n ?_
    exact ⟨⟨(k2, (s1.1, 0, 0, IntKind.i64.wrap (s1.2.2.2 + 1))), H⟩, Nat.lt_succ_self _, Less.mk' ⟨rfl, rfl, rfl, rfl, rfl, trivial⟩ trivial⟩
  replace H := of_f H h3
  refine WC.exit ?_
  refine QT.x (QT.x (QB.hit (QT.n ?_)))
  refine WC.seq ?_
  refine WC.seq ?_
  refine WC.region ?_
  refine WL.run 1 tt_ok sg0 rfl rfl trivial ?_
  obtain ⟨x10, hx10, H⟩ := of_bind H
  refine WL.call [] (ref02_Text_0 _ hx10) ref02_Text_f rfl rfl trivial rfl rfl rfl ?_
  refine WL.run 2 tt_ok sg0 rfl rfl trivial ?_
  refine WL.nil ?_
  refine QT.n ?_
  refine WC.cond rfl (fun h11 => ?_) (fun h11 => ?_)
  · replace H := of_t H h11
    refine WC.seq ?_
    refine WC.region ?_
    refine WL.run 2 tt_ok sg0 rfl rfl trivial ?_
    refine WL.nil ?_
    refine QT.n ?_
    refine WC.ret ?_
    refine QT.r ?_
    cases H
    exact Ends.auto rfl rfl rfl trivial
  replace H := of_f H h11
  refine WC.skip ?_
  refine QT.n ?_
  refine WC.seq ?_
  refine WC.region ?_
  refine WL.run 3 tt_ok sg0 rfl rfl trivial ?_
  refine WL.nil ?_
  refine QT.n ?_
  refine WC.ret ?_
  cases H
  exact Ends.auto rfl rfl rfl trivial
theorem ref02_Parse_f : hasFunc Tryd.prog 29 Tryd.f29 := ⟨Tryd.func29, rfl, by kernel_rfl⟩

/-! ### logjam/logjamlaw02.BitsTexts -/
theorem law02_BitsTexts_0 (a0 : Int) (a1 : ByteArray) {r : Bool} (H : law02_BitsTexts a0 a1 = some r) : LJ.Spec Tryd.prog 7 [.d (.int .u64 a0), .d (.str a1)] [] (.d (.bool r)) [] := by
  refine LJ.Spec.code Tryd.func7 rfl 58 rfl rfl [] rfl fun w0 F0 S0 B0 => ?_
  unfold law02_BitsTexts at H
  refine WC.seq ?_
  refine WC.region ?_
  refine WL.run 1 tt_ok sg0 rfl rfl trivial ?_
  refine WL.nil ?_
  refine QT.n ?_
  refine WC.seq ?_
  refine WC.seq ?_
  refine WC.region ?_
  refine WL.run 3 tt_ok sg0 rfl rfl trivial ?_
  refine WL.nil ?_
  refine QT.n ?_
  refine WC.cond rfl (fun h1 => ?_) (fun h1 => ?_)
  · replace H := of_t H h1
    refine WC.region ?_
    obtain ⟨g2, H⟩ := of_need H
    refine WL.run 3 tt_ok sg0 rfl rfl ⟨(nTo_ok g2), trivial⟩ ?_
    refine WL.nil ?_
    refine QT.n ?_
    refine WC.seq ?_
    refine WC.region ?_
    refine WL.run 1 tt_ok sg0 rfl rfl trivial ?_
    obtain ⟨x3, hx3, H⟩ := of_bind H
    refine WL.call [] (bits_Parse_0 _ hx3) bits_Parse_f rfl rfl trivial rfl rfl rfl ?_
    refine WL.run 5 tt_ok sg0 rfl rfl trivial ?_
    refine WL.nil ?_
    refine QT.n ?_
    refine WC.seq ?_
    refine WC.region ?_
    refine WL.run 1 tt_ok sg0 rfl rfl trivial ?_
    obtain ⟨x4, hx4, H⟩ := of_bind H
    refine WL.call [] (ref02_Parse_0 _ hx4) ref02_Parse_f rfl rfl trivial rfl rfl rfl ?_
    refine WL.run 5 tt_ok sg0 rfl rfl trivial ?_
    refine WL.nil ?_
    refine QT.n ?_
    refine WC.seq ?_
    refine WC.region ?_
    refine WL.run 1 tt_ok sg0 rfl rfl trivial ?_
    obtain ⟨x5, hx5, H⟩ := of_bind H
    refine WL.call [] (bits_Text_0 _ hx5) bits_Text_f rfl rfl trivial rfl rfl rfl ?_
    obtain ⟨x6, hx6, H⟩ := of_bind H
    refine WL.call [] (bits_Parse_0 _ hx6) bits_Parse_f rfl rfl trivial rfl rfl rfl ?_
    refine WL.run 5 tt_ok sg0 rfl rfl trivial ?_
    refine WL.nil ?_
    refine QT.n ?_
    refine WC.seq ?_
    refine WC.region ?_
    refine WL.run 1 tt_ok sg0 rfl rfl trivial ?_
    obtain ⟨x7, hx7, H⟩ := of_bind H
    refine WL.call [] (bits_Text_0 _ hx7) bits_Text_f rfl rfl trivial rfl rfl rfl ?_
    refine WL.run 1 tt_ok sg0 rfl rfl trivial ?_
    obtain ⟨x8, hx8, H⟩ := of_bind H
    refine WL.call [] (ref02_Text_0 _ hx8) ref02_Text_f rfl rfl trivial rfl rfl rfl ?_
    refine WL.run 2 tt_ok sg0 rfl rfl trivial ?_
    refine WL.sect 3 5 true tt_ok sg0 rfl rfl (fun _ => trivial) ?_
    refine WL.run 2 tt_ok sg0 rfl rfl ⟨by first | exact id | exact fun h => by rw [h]; rfl | simp_all, trivial⟩ ?_
    refine WL.sect 3 10 true tt_ok sg0 rfl rfl (fun _ => trivial) ?_
    refine WL.run 2 tt_ok sg0 rfl rfl ⟨by first | exact id | exact fun h => by rw [h]; rfl | simp_all, trivial⟩ ?_
    refine WL.sect 1 15 true tt_ok sg0 rfl rfl (fun _ => trivial) ?_
    refine WL.run 2 tt_ok sg0 rfl rfl ⟨by first | exact id | exact fun h => by rw [h]; rfl | simp_all, trivial⟩ ?_
    refine WL.sect 3 18 true tt_ok sg0 rfl rfl (fun _ => trivial) ?_
    refine WL.run 2 tt_ok sg0 rfl rfl ⟨by first | exact id | exact fun h => by rw [h]; rfl | simp_all, trivial⟩ ?_
    obtain ⟨x9, hx9, H⟩ := of_bind H
    refine WL.sect 1 23 true tt_ok [PSig.at' law02_lives_f ((((((sEq x7 x8) && (iEq x3.1 x4.1)) && (x3.2 == x4.2)) && x6.2) && (iEq x6.1 a0)) = true) rfl (fun hb => law02_lives_0  (of_t hx9 hb))] rfl rfl (fun hb => ⟨⟨hb, rfl⟩, trivial⟩) ?_
    refine WL.run 2 tt_ok sg0 rfl rfl ⟨by first | exact id | exact fun h => by rw [h]; rfl | simp_all, trivial⟩ ?_
    refine WL.nil ?_
    refine QT.n ?_
    refine WC.ret ?_
    cases H
    exact Ends.auto rfl rfl rfl trivial
  replace H := of_f H h1
  refine WC.skip ?_
  refine QT.n ?_
  refine WC.seq ?_
  refine WC.region ?_
  refine WL.run 1 tt_ok sg0 rfl rfl trivial ?_
  obtain ⟨x10, hx10, H⟩ := of_bind H
  refine WL.call [] (bits_Parse_0 _ hx10) bits_Parse_f rfl rfl trivial rfl rfl rfl ?_
  refine WL.run 5 tt_ok sg0 rfl rfl trivial ?_
  refine WL.nil ?_
  refine QT.n ?_
  refine WC.seq ?_
  refine WC.region ?_
  refine WL.run 1 tt_ok sg0 rfl rfl trivial ?_
  obtain ⟨x11, hx11, H⟩ := of_bind H
  refine WL.call [] (ref02_Parse_0 _ hx11) ref02_Parse_f rfl rfl trivial rfl rfl rfl ?_
  refine WL.run 5 tt_ok sg0 rfl rfl trivial ?_
  refine WL.nil ?_
  refine QT.n ?_
  refine WC.seq ?_
  refine WC.region ?_
  refine WL.run 1 tt_ok sg0 rfl rfl trivial ?_
  obtain ⟨x12, hx12, H⟩ := of_bind H
  refine WL.call [] (bits_Text_0 _ hx12) bits_Text_f rfl rfl trivial rfl rfl rfl ?_
  obtain ⟨x13, hx13, H⟩ := of_bind H
  refine WL.call [] (bits_Parse_0 _ hx13) bits_Parse_f rfl rfl trivial rfl rfl rfl ?_
  refine WL.run 5 tt_ok sg0 rfl rfl trivial ?_
  refine WL.nil ?_
  refine QT.n ?_
  refine WC.seq ?_
  refine WC.region ?_
  refine WL.run 1 tt_ok sg0 rfl rfl trivial ?_
  obtain ⟨x14, hx14, H⟩ := of_bind H
  refine WL.call [] (bits_Text_0 _ hx14) bits_Text_f rfl rfl trivial rfl rfl rfl ?_
  refine WL.run 1 tt_ok sg0 rfl rfl trivial ?_
  obtain ⟨x15, hx15, H⟩ := of_bind H
  refine WL.call [] (ref02_Text_0 _ hx15) ref02_Text_f rfl rfl trivial rfl rfl rfl ?_
  refine WL.run 2 tt_ok sg0 rfl rfl trivial ?_
  refine WL.sect 3 5 true tt_ok sg0 rfl rfl (fun _ => trivial) ?_
  refine WL.run 2 tt_ok sg0 rfl rfl ⟨by first | exact id | exact fun h => by rw [h]; rfl | simp_all, trivial⟩ ?_
  refine WL.sect 3 10 true tt_ok sg0 rfl rfl (fun _ => trivial) ?_
  refine WL.run 2 tt_ok sg0 rfl rfl ⟨by first | exact id | exact fun h => by rw [h]; rfl | simp_all, trivial⟩ ?_
  refine WL.sect 1 15 true tt_ok sg0 rfl rfl (fun _ => trivial) ?_
  refine WL.run 2 tt_ok sg0 rfl rfl ⟨by first | exact id | exact fun h => by rw [h]; rfl | simp_all, trivial⟩ ?_
  refine WL.sect 3 18 true tt_ok sg0 rfl rfl (fun _ => trivial) ?_
  refine WL.run 2 tt_ok sg0 rfl rfl ⟨by first | exact id | exact fun h => by rw [h]; rfl | simp_all, trivial⟩ ?_
  obtain ⟨x16, hx16, H⟩ := of_bind H
  refine WL.sect 1 23 true tt_ok [PSig.at' law02_lives_f ((((((sEq x14 x15) && (iEq x10.1 x11.1)) && (x10.2 == x11.2)) && x13.2) && (iEq x13.1 a0)) = true) rfl (fun hb => law02_lives_0  (of_t hx16 hb))] rfl rfl (fun hb => ⟨⟨hb, rfl⟩, trivial⟩) ?_
  refine WL.run 2 tt_ok sg0 rfl rfl ⟨by first | exact id | exact fun h => by rw [h]; rfl | simp_all, trivial⟩ ?_
  refine WL.nil ?_
  refine QT.n ?_
  refine WC.ret ?_
  cases H
  exact Ends.auto rfl rfl rfl trivial
theorem law02_BitsTexts_f : hasFunc Tryd.prog 7 Tryd.f7 := ⟨Tryd.func7, rfl, by kernel_rfl⟩

end Go.Proofs.YtjahbgdjejgkpaaDoor.W
