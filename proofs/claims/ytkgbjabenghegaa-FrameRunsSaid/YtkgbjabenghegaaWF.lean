/- Each Go function comes to what its plain function gives, where that gives something. -/
import Derived.Test.YtkgbjabenghegaaPF
import Derived.Test.YtkgbjabenghegaaProg
import Derived.Test.YtkgbjabenghegaaXRsl
namespace Go.Proofs.Ytkgbjabenghegaa.W
open Go Go.RowKit LJ
set_option linter.unusedVariables false
set_option linter.unusedSimpArgs false
set_option maxRecDepth 10000
/-- The types that the walks meet. -/
def tt : List (Nat × TK) := [(3, .int .i64), (4, .bool), (21, .int .i32), (22, .slice 27 3), (23, .slice 45 27), (27, .struct 3 [(0, 1, true), (1, 1, true), (2, 1, true)] [.int .i64 0, .int .i64 0, .int .i64 0]), (30, .slice 3 1), (42, .arr 8 8 3 1), (43, .arr 16 16 3 1), (45, .struct 27 [(0, 1, true), (1, 1, true), (2, 1, true), (3, 8, false), (11, 16, false)] [.int .i64 0, .int .i64 0, .int .i64 0, .int .i64 0, .int .i64 0, .int .i64 0, .int .i64 0, .int .i64 0, .int .i64 0, .int .i64 0, .int .i64 0, .int .i64 0, .int .i64 0, .int .i64 0, .int .i64 0, .int .i64 0, .int .i64 0, .int .i64 0, .int .i64 0, .int .i64 0, .int .i64 0, .int .i64 0, .int .i64 0, .int .i64 0, .int .i64 0, .int .i64 0, .int .i64 0]), (47, .ptr), (52, .int .u32)]
theorem tt_ok : ttOK Try.prog tt = true := by kernel_rfl
/-- Elements of the slices that are appended to: cells, bytes. -/
def et : List (Nat × Nat × Nat) := [(3, 1, 8), (27, 3, 24), (45, 27, 216)]
theorem et_ok : etOK Try.prog et = true := by kernel_rfl
def sg0 : List (PSig Try.prog) := []
def eg0 : List (ESig Try.prog) := []
/-! ### logjam/word.Low -/
theorem word_Low_0 (a0 : Int) {r : Int} (H : word_Low a0 = some r) : LJ.Spec Try.prog 16 [.d (.int .i64 a0)] [] (.d (.int .i64 r)) [] := by
  refine LJ.Spec.code Try.func16 rfl 7 rfl rfl [] rfl fun w0 F0 S0 B0 => ?_
  unfold word_Low at H
  refine WC.seq ?_
  refine WC.region ?_
  refine WL.run 1 tt_ok sg0 rfl rfl trivial ?_
  refine WL.nil ?_
  refine QT.n ?_
  refine WC.seq ?_
  refine WC.region ?_
  refine WL.run 5 tt_ok sg0 rfl rfl trivial ?_
  refine WL.nil ?_
  refine QT.n ?_
  refine WC.ret ?_
  cases H
  exact Ends.auto rfl rfl rfl trivial
theorem word_Low_f : hasFunc Try.prog 16 Try.f16 := ⟨Try.func16, rfl, by kernel_rfl⟩

/-! ### logjam/frame.New -/
theorem frame_New_0 (a0 : Int) (a1 : List Int) {r : List T_api_Frame} (H : frame_New a0 a1 = some r) : LJ.Spec Try.prog 4 [.d (.int .i64 a0), .d (slT enc_i64 a1)] [] (.d (slT enc_api_Frame r)) [] := by
  refine LJ.Spec.code Try.func4 rfl 29 rfl rfl [] rfl fun w0 F0 S0 B0 => ?_
  unfold frame_New at H
  refine WC.seq ?_
  refine WC.region ?_
  refine WL.run 1 tt_ok sg0 rfl rfl trivial ?_
  refine WL.nil ?_
  refine QT.n ?_
  refine WC.seq ?_
  refine WC.region ?_
  refine WL.run 2 tt_ok sg0 rfl rfl trivial ?_
  refine WL.alloc 105 tt_ok rfl rfl rfl ?_
  refine WL.eff 0 tt_ok et_ok eg0 rfl rfl rfl trivial ?_
  refine WL.nil ?_
  refine QT.n ?_
  refine WC.seq ?_
  refine WC.seq ?_
  refine WC.region ?_
  refine WL.run 3 tt_ok sg0 rfl rfl trivial ?_
  refine WL.yv (LJ.Y.min rfl rfl rfl) rfl rfl rfl ?_
  obtain ⟨g1, H⟩ := of_need H
  refine WL.yv (LJ.Y.sliceT enc_i64 a1 tt_ok rfl (fun _ => rfl) none (some (.tmp 13)) (0 : Int) (iMin (a1.length : Int) (8 : Int)) rfl rfl ⟨_, rfl⟩ rfl rfl (nSl_ok g1)) rfl rfl rfl ?_
  refine WL.run 2 tt_ok sg0 rfl rfl trivial ?_
  refine WL.nil ?_
  refine QT.n ?_
  refine WC.block ?_
  refine WC.loop (ι := {x : Nat × (Int × (List Int)) // frame_New_l3 a0 a1 x.1 x.2 = some r}) (fun x => [(5, .ptr 105 0), (14, .d (slT enc_i64 ((a1.take (iMin (a1.length : Int) (8 : Int)).toNat).drop (0 : Int).toNat))), (15, .d (.int .i64 (((a1.take (iMin (a1.length : Int) (8 : Int)).toNat).drop (0 : Int).toNat).length : Int))), (16, .d (.int .i64 x.1.2.1))]) (fun x => [(105, .box 45 [.d (.int .i64 a0), .d (.int .i64 0), .d (.int .i64 0), .d (.int .i64 (x.1.2.2.getD 0 default)), .d (.int .i64 (x.1.2.2.getD 1 default)), .d (.int .i64 (x.1.2.2.getD 2 default)), .d (.int .i64 (x.1.2.2.getD 3 default)), .d (.int .i64 (x.1.2.2.getD 4 default)), .d (.int .i64 (x.1.2.2.getD 5 default)), .d (.int .i64 (x.1.2.2.getD 6 default)), .d (.int .i64 (x.1.2.2.getD 7 default)), .d (.int .i64 0), .d (.int .i64 0), .d (.int .i64 0), .d (.int .i64 0), .d (.int .i64 0), .d (.int .i64 0), .d (.int .i64 0), .d (.int .i64 0), .d (.int .i64 0), .d (.int .i64 0), .d (.int .i64 0), .d (.int .i64 0), .d (.int .i64 0), .d (.int .i64 0), .d (.int .i64 0), .d (.int .i64 0)])]) (fun x => x.1.1) ⟨(fuel, (0, ([0, 0, 0, 0, 0, 0, 0, 0] : List Int))), H⟩ (Less.mk' ⟨rfl, rfl, rfl, rfl, trivial⟩ ⟨rfl, trivial⟩) fun x => ?_
  obtain ⟨⟨k3, s2⟩, H⟩ := x
  rcases k3 with _ | k3
  · exact of_none H
  rw [frame_New_l3] at H
  refine WC.seq ?_
  refine WC.region ?_
  refine WL.run 1 tt_ok sg0 rfl rfl trivial ?_
  refine WL.nil ?_
  refine QT.n ?_
  refine WC.seq ?_
  refine WC.cond rfl (fun h4 => ?_) (fun h4 => ?_)
  · replace H := of_t H h4
    refine WC.skip ?_
    refine QT.n ?_
    refine WC.seq ?_
    refine WC.block ?_
    refine WC.seq ?_
    refine WC.region ?_
    obtain ⟨g5, H⟩ := of_need H
    refine WL.run 5 tt_ok sg0 rfl rfl ⟨⟨(nIn_ok g5).1, (nIn_ok g5).2, rfl⟩, trivial⟩ ?_
    refine WL.nil ?_
    refine QT.n ?_
    refine WC.region ?_
    refine WL.run 2 tt_ok sg0 rfl rfl trivial ?_
    obtain ⟨x6, hx6, H⟩ := of_bind H
    refine WL.call [] (word_Low_0 _ hx6) word_Low_f rfl rfl trivial rfl rfl rfl ?_
    refine WL.run 1 tt_ok sg0 rfl rfl trivial ?_
    obtain ⟨g7, H⟩ := of_need H
    refine WL.yv (LJ.Y.idxPtrA 8 s2.1 (by kernel_rfl) rfl rfl rfl (nIn_ok g7)) rfl rfl rfl ?_
    refine WL.wo (WO.storePtrA 8 3 (fun x : Int => DV.int .i64 x) s2.2 x6 s2.1 (cs' := [.d (.int .i64 a0), .d (.int .i64 0), .d (.int .i64 0), .d (.int .i64 ((aset 8 s2.2 s2.1.toNat x6).getD 0 default)), .d (.int .i64 ((aset 8 s2.2 s2.1.toNat x6).getD 1 default)), .d (.int .i64 ((aset 8 s2.2 s2.1.toNat x6).getD 2 default)), .d (.int .i64 ((aset 8 s2.2 s2.1.toNat x6).getD 3 default)), .d (.int .i64 ((aset 8 s2.2 s2.1.toNat x6).getD 4 default)), .d (.int .i64 ((aset 8 s2.2 s2.1.toNat x6).getD 5 default)), .d (.int .i64 ((aset 8 s2.2 s2.1.toNat x6).getD 6 default)), .d (.int .i64 ((aset 8 s2.2 s2.1.toNat x6).getD 7 default)), .d (.int .i64 0), .d (.int .i64 0), .d (.int .i64 0), .d (.int .i64 0), .d (.int .i64 0), .d (.int .i64 0), .d (.int .i64 0), .d (.int .i64 0), .d (.int .i64 0), .d (.int .i64 0), .d (.int .i64 0), .d (.int .i64 0), .d (.int .i64 0), .d (.int .i64 0), .d (.int .i64 0), .d (.int .i64 0)]) rfl rfl rfl rfl rfl (by kernel_rfl) rfl rfl (nIn_ok g7) rfl rfl rfl) rfl ?_
    refine WL.nil ?_
    refine QB.n (QT.n ?_)
    refine WC.region ?_
    refine WL.run 2 tt_ok sg0 rfl rfl trivial ?_
    refine WL.nil ?_
    refine QT.n ?_
    exact ⟨⟨(k3, (IntKind.i64.wrap (s2.1 + 1), (aset 8 s2.2 s2.1.toNat x6))), H⟩, Nat.lt_succ_self _, Less.mk' ⟨rfl, rfl, rfl, rfl, trivial⟩ ⟨rfl, trivial⟩⟩
  replace H := of_f H h4
  refine WC.exit ?_
  refine QT.x (QT.x (QB.hit (QT.n ?_)))
  refine WC.seq ?_
  refine WC.region ?_
  refine WL.run 1 tt_ok sg0 rfl rfl trivial ?_
  refine WL.eff 128 tt_ok et_ok eg0 rfl rfl rfl trivial ?_
  refine WL.freezeT 128 enc_api_Frame ([(⟨a0, 0, 0, s2.2, ([0, 0, 0, 0, 0, 0, 0, 0, 0, 0, 0, 0, 0, 0, 0, 0] : List Int)⟩ : T_api_Frame)] : List T_api_Frame) rfl rfl rfl rfl ?_
  refine WL.run 1 tt_ok sg0 rfl rfl trivial ?_
  refine WL.nil ?_
  refine QT.n ?_
  refine WC.ret ?_
  cases H
  exact Ends.auto rfl rfl rfl trivial
theorem frame_New_f : hasFunc Try.prog 4 Try.f4 := ⟨Try.func4, rfl, by kernel_rfl⟩

/-! ### logjam/logjamref03.Low -/
theorem ref03_Low_0 (a0 : Int) {r : Int} (H : ref03_Low a0 = some r) : LJ.Spec Try.prog 17 [.d (.int .i64 a0)] [] (.d (.int .i64 r)) [] := by
  refine LJ.Spec.code Try.func17 rfl 15 rfl rfl [] rfl fun w0 F0 S0 B0 => ?_
  unfold ref03_Low at H
  refine WC.seq ?_
  refine WC.region ?_
  refine WL.run 1 tt_ok sg0 rfl rfl trivial ?_
  refine WL.nil ?_
  refine QT.n ?_
  refine WC.seq ?_
  refine WC.region ?_
  refine WL.run 3 tt_ok sg0 rfl rfl trivial ?_
  refine WL.nil ?_
  refine QT.n ?_
  refine WC.seq ?_
  refine WC.seq ?_
  refine WC.region ?_
  refine WL.run 2 tt_ok sg0 rfl rfl trivial ?_
  refine WL.nil ?_
  refine QT.n ?_
  refine WC.cond rfl (fun h1 => ?_) (fun h1 => ?_)
  · replace H := of_t H h1
    refine WC.seq ?_
    refine WC.region ?_
    refine WL.run 3 tt_ok sg0 rfl rfl trivial ?_
    refine WL.nil ?_
    refine QT.n ?_
    refine WC.ret ?_
    refine QT.r ?_
    cases H
    exact Ends.auto rfl rfl rfl trivial
  replace H := of_f H h1
  refine WC.skip ?_
  refine QT.n ?_
  refine WC.seq ?_
  refine WC.seq ?_
  refine WC.region ?_
  refine WL.run 2 tt_ok sg0 rfl rfl trivial ?_
  refine WL.nil ?_
  refine QT.n ?_
  refine WC.cond rfl (fun h2 => ?_) (fun h2 => ?_)
  · replace H := of_t H h2
    refine WC.seq ?_
    refine WC.region ?_
    refine WL.run 3 tt_ok sg0 rfl rfl trivial ?_
    refine WL.nil ?_
    refine QT.n ?_
    refine WC.ret ?_
    refine QT.r ?_
    cases H
    exact Ends.auto rfl rfl rfl trivial
  replace H := of_f H h2
  refine WC.skip ?_
  refine QT.n ?_
  refine WC.seq ?_
  refine WC.region ?_
  refine WL.run 2 tt_ok sg0 rfl rfl trivial ?_
  refine WL.nil ?_
  refine QT.n ?_
  refine WC.ret ?_
  cases H
  exact Ends.auto rfl rfl rfl trivial
theorem ref03_Low_f : hasFunc Try.prog 17 Try.f17 := ⟨Try.func17, rfl, by kernel_rfl⟩

/-! ### logjam/logjamref14.New -/
theorem ref14_New_0 (a0 : Int) (a1 : List Int) {r : List T_api_Frame} (H : ref14_New a0 a1 = some r) : LJ.Spec Try.prog 5 [.d (.int .i64 a0), .d (slT enc_i64 a1)] [] (.d (slT enc_api_Frame r)) [] := by
  refine LJ.Spec.code Try.func5 rfl 29 rfl rfl [] rfl fun w0 F0 S0 B0 => ?_
  unfold ref14_New at H
  refine WC.seq ?_
  refine WC.region ?_
  refine WL.run 1 tt_ok sg0 rfl rfl trivial ?_
  refine WL.nil ?_
  refine QT.n ?_
  refine WC.seq ?_
  refine WC.region ?_
  refine WL.run 2 tt_ok sg0 rfl rfl trivial ?_
  refine WL.alloc 105 tt_ok rfl rfl rfl ?_
  refine WL.eff 0 tt_ok et_ok eg0 rfl rfl rfl trivial ?_
  refine WL.nil ?_
  refine QT.n ?_
  refine WC.seq ?_
  refine WC.seq ?_
  refine WC.region ?_
  refine WL.run 1 tt_ok sg0 rfl rfl trivial ?_
  refine WL.nil ?_
  refine QT.n ?_
  refine WC.block ?_
  refine WC.loop (ι := {x : Nat × (Int × (List Int)) // ref14_New_l2 a0 a1 x.1 x.2 = some r}) (fun x => [(1, .d (slT enc_i64 a1)), (5, .ptr 105 0), (6, .d (.int .i64 x.1.2.1))]) (fun x => [(105, .box 45 [.d (.int .i64 a0), .d (.int .i64 0), .d (.int .i64 0), .d (.int .i64 (x.1.2.2.getD 0 default)), .d (.int .i64 (x.1.2.2.getD 1 default)), .d (.int .i64 (x.1.2.2.getD 2 default)), .d (.int .i64 (x.1.2.2.getD 3 default)), .d (.int .i64 (x.1.2.2.getD 4 default)), .d (.int .i64 (x.1.2.2.getD 5 default)), .d (.int .i64 (x.1.2.2.getD 6 default)), .d (.int .i64 (x.1.2.2.getD 7 default)), .d (.int .i64 0), .d (.int .i64 0), .d (.int .i64 0), .d (.int .i64 0), .d (.int .i64 0), .d (.int .i64 0), .d (.int .i64 0), .d (.int .i64 0), .d (.int .i64 0), .d (.int .i64 0), .d (.int .i64 0), .d (.int .i64 0), .d (.int .i64 0), .d (.int .i64 0), .d (.int .i64 0), .d (.int .i64 0)])]) (fun x => x.1.1) ⟨(fuel, (0, ([0, 0, 0, 0, 0, 0, 0, 0] : List Int))), H⟩ (Less.mk' ⟨rfl, rfl, rfl, trivial⟩ ⟨rfl, trivial⟩) fun x => ?_
  obtain ⟨⟨k2, s1⟩, H⟩ := x
  rcases k2 with _ | k2
  · exact of_none H
  rw [ref14_New_l2] at H
  refine WC.seq ?_
  refine WC.seq ?_
  refine WC.region ?_
  refine WL.run 5 tt_ok sg0 rfl rfl trivial ?_
  refine WL.sect 2 4 true tt_ok sg0 rfl rfl (fun _ => trivial) ?_
  refine WL.run 1 tt_ok sg0 rfl rfl ⟨by first | exact id | exact fun h => by rw [h]; rfl | simp_all, trivial⟩ ?_
  refine WL.nil ?_
  refine QT.n ?_
  refine WC.cond rfl (fun h3 => ?_) (fun h3 => ?_)
  · replace H := of_t H h3
    refine WC.skip ?_
    refine QT.n ?_
    refine WC.seq ?_
    refine WC.block ?_
    refine WC.region ?_
    obtain ⟨g4, H⟩ := of_need H
    refine WL.run 5 tt_ok sg0 rfl rfl ⟨⟨(nIn_ok g4).1, (nIn_ok g4).2, rfl⟩, trivial⟩ ?_
    obtain ⟨x5, hx5, H⟩ := of_bind H
    refine WL.call [] (ref03_Low_0 _ hx5) ref03_Low_f rfl rfl trivial rfl rfl rfl ?_
    refine WL.run 1 tt_ok sg0 rfl rfl trivial ?_
    obtain ⟨g6, H⟩ := of_need H
    refine WL.yv (LJ.Y.idxPtrA 8 s1.1 (by kernel_rfl) rfl rfl rfl (nIn_ok g6)) rfl rfl rfl ?_
    refine WL.wo (WO.storePtrA 8 3 (fun x : Int => DV.int .i64 x) s1.2 x5 s1.1 (cs' := [.d (.int .i64 a0), .d (.int .i64 0), .d (.int .i64 0), .d (.int .i64 ((aset 8 s1.2 s1.1.toNat x5).getD 0 default)), .d (.int .i64 ((aset 8 s1.2 s1.1.toNat x5).getD 1 default)), .d (.int .i64 ((aset 8 s1.2 s1.1.toNat x5).getD 2 default)), .d (.int .i64 ((aset 8 s1.2 s1.1.toNat x5).getD 3 default)), .d (.int .i64 ((aset 8 s1.2 s1.1.toNat x5).getD 4 default)), .d (.int .i64 ((aset 8 s1.2 s1.1.toNat x5).getD 5 default)), .d (.int .i64 ((aset 8 s1.2 s1.1.toNat x5).getD 6 default)), .d (.int .i64 ((aset 8 s1.2 s1.1.toNat x5).getD 7 default)), .d (.int .i64 0), .d (.int .i64 0), .d (.int .i64 0), .d (.int .i64 0), .d (.int .i64 0), .d (.int .i64 0), .d (.int .i64 0), .d (.int .i64 0), .d (.int .i64 0), .d (.int .i64 0), .d (.int .i64 0), .d (.int .i64 0), .d (.int .i64 0), .d (.int .i64 0), .d (.int .i64 0), .d (.int .i64 0)]) rfl rfl rfl rfl rfl (by kernel_rfl) rfl rfl (nIn_ok g6) rfl rfl rfl) rfl ?_
    refine WL.nil ?_
    refine QB.n (QT.n ?_)
    refine WC.region ?_
    refine WL.run 3 tt_ok sg0 rfl rfl trivial ?_
    refine WL.nil ?_
    refine QT.n ?_
    exact ⟨⟨(k2, (IntKind.i64.wrap (s1.1 + 1), (aset 8 s1.2 s1.1.toNat x5))), H⟩, Nat.lt_succ_self _, Less.mk' ⟨rfl, rfl, rfl, trivial⟩ ⟨rfl, trivial⟩⟩
  replace H := of_f H h3
  refine WC.exit ?_
  refine QT.x (QT.x (QB.hit (QT.n ?_)))
  refine WC.seq ?_
  refine WC.region ?_
  refine WL.run 1 tt_ok sg0 rfl rfl trivial ?_
  refine WL.eff 128 tt_ok et_ok eg0 rfl rfl rfl trivial ?_
  refine WL.freezeT 128 enc_api_Frame ([(⟨a0, 0, 0, s1.2, ([0, 0, 0, 0, 0, 0, 0, 0, 0, 0, 0, 0, 0, 0, 0, 0] : List Int)⟩ : T_api_Frame)] : List T_api_Frame) rfl rfl rfl rfl ?_
  refine WL.run 1 tt_ok sg0 rfl rfl trivial ?_
  refine WL.nil ?_
  refine QT.n ?_
  refine WC.ret ?_
  cases H
  exact Ends.auto rfl rfl rfl trivial
theorem ref14_New_f : hasFunc Try.prog 5 Try.f5 := ⟨Try.func5, rfl, by kernel_rfl⟩

/-! ### logjam/frame.last -/
theorem frame_last_n_0 (a0 : List T_api_Frame) (hA : (iEq (a0.length : Int) 0) = true) {r : List T_api_Frame} (H : frame_last_n a0 = some r) : LJ.Spec Try.prog 18 [.d (slT enc_api_Frame a0)] [] (.tup [.d (slT enc_api_Frame r), .d (.nilp)]) [] := by
  refine LJ.Spec.code Try.func18 rfl 17 rfl rfl [] rfl fun w0 F0 S0 B0 => ?_
  unfold frame_last_n at H
  refine WC.seq ?_
  refine WC.region ?_
  refine WL.run 2 tt_ok sg0 rfl rfl trivial ?_
  refine WL.nil ?_
  refine QT.n ?_
  refine WC.seq ?_
  refine WC.seq ?_
  refine WC.region ?_
  refine WL.run 3 tt_ok sg0 rfl rfl trivial ?_
  refine WL.nil ?_
  refine QT.n ?_
  refine WC.cond rfl (fun h => ?_) (fun h => absurd (hA.symm.trans h) (by decide))
  refine WC.seq ?_
  refine WC.region ?_
  refine WL.run 2 tt_ok sg0 rfl rfl trivial ?_
  refine WL.nil ?_
  refine QT.n ?_
  refine WC.nilT 2 enc_api_Frame rfl ?_
  refine WC.ret ?_
  refine QT.r ?_
  cases H
  exact Ends.auto rfl rfl rfl trivial
theorem frame_last_n_f : hasFunc Try.prog 18 Try.f18 := ⟨Try.func18, rfl, by kernel_rfl⟩

/-! ### logjam/frame.last -/
theorem frame_last_o_0 (a0 : List T_api_Frame) (hA : (iEq (a0.length : Int) 0) = false) {r : List T_api_Frame} (H : frame_last_o a0 = some r) : LJ.Spec Try.prog 18 [.d (slT enc_api_Frame a0)] [] (.tup [.own 0, .rel 0 ((IntKind.i64.wrap ((((([] : List T_api_Frame) ++ a0).map enc_api_Frame).length : Int) - 1)).toNat * 27)]) [(0, .row 45 27 (r.map enc_api_Frame))] := by
  refine LJ.Spec.code Try.func18 rfl 17 rfl rfl [] rfl fun w0 F0 S0 B0 => ?_
  unfold frame_last_o at H
  refine WC.seq ?_
  refine WC.region ?_
  refine WL.run 2 tt_ok sg0 rfl rfl trivial ?_
  refine WL.nil ?_
  refine QT.n ?_
  refine WC.seq ?_
  refine WC.seq ?_
  refine WC.region ?_
  refine WL.run 3 tt_ok sg0 rfl rfl trivial ?_
  refine WL.nil ?_
  refine QT.n ?_
  refine WC.cond rfl (fun h => absurd (hA.symm.trans h) (by decide)) (fun h => ?_)
  refine WC.skip ?_
  refine QT.n ?_
  refine WC.seq ?_
  refine WC.region ?_
  refine WL.eff 0 tt_ok et_ok eg0 rfl rfl rfl trivial ?_
  refine WL.run 1 tt_ok sg0 rfl rfl trivial ?_
  refine WL.row 0 (([] : List T_api_Frame).map enc_api_Frame) rfl rfl rfl ?_
  obtain ⟨g1, H⟩ := of_need H
  refine WL.appT enc_api_Frame ([] : List T_api_Frame) a0 tt_ok et_ok rfl rfl (fun _ => rfl) (fun _ => rfl) rfl rfl rfl rfl (nCap_ok g1) rfl rfl rfl rfl rfl ?_
  refine WL.run 1 tt_ok sg0 rfl rfl trivial ?_
  refine WL.nil ?_
  refine QT.n ?_
  refine WC.seq ?_
  refine WC.heldP (.one 0 true (.one 1 true (.one 2 true (.one 6 true (.one 3 false (.one 4 true (.one 5 false (.one 7 true .done)))))))) [] [] rfl (by kernel_rfl) rfl (by kernel_rfl) rfl rfl (fun _ h => h) rfl rfl rfl (fun _ _ _ h => h) fun FK NK wK K => ?_
  refine WH.mv rfl rfl rfl rfl rfl rfl rfl rfl rfl ?_
  refine WH.mv rfl rfl rfl rfl rfl rfl rfl rfl rfl ?_
  refine WH.mv rfl rfl rfl rfl rfl rfl rfl rfl rfl ?_
  refine WH.mv rfl rfl rfl rfl rfl rfl rfl rfl rfl ?_
  refine WH.val tt_ok rfl rfl rfl rfl rfl trivial rfl rfl ?_
  refine WH.run 1 tt_ok rfl rfl rfl rfl trivial ?_
  obtain ⟨g2, H⟩ := of_need H
  refine WH.yvs rfl (LJ.Y.idxRel enc_api_Frame (([] : List T_api_Frame) ++ a0) (IntKind.i64.wrap ((((([] : List T_api_Frame) ++ a0).map enc_api_Frame).length : Int) - 1)) tt_ok rfl rfl rfl rfl rfl (nIn_ok g2)) rfl rfl rfl rfl rfl ?_
  refine WH.mv rfl rfl rfl rfl rfl rfl rfl rfl rfl ?_
  refine WH.nil rfl ?_
  refine QT.n ?_
  refine WC.ret ?_
  cases H
  exact Ends.auto rfl rfl rfl ⟨rfl, trivial⟩
theorem frame_last_o_s (n0 : Nat) (hn : nodupB [n0] = true) (a0 : List T_api_Frame) (hA : (iEq (a0.length : Int) 0) = false) {r : List T_api_Frame} (H : frame_last_o a0 = some r) : LJ.Spec Try.prog 18 [.d (slT enc_api_Frame a0)] [] (.tup [.own n0, .rel n0 ((IntKind.i64.wrap ((((([] : List T_api_Frame) ++ a0).map enc_api_Frame).length : Int) - 1)).toNat * 27)]) [(n0, .row 45 27 (r.map enc_api_Frame))] :=
  Spec.names [n0] hn rfl rfl (frame_last_o_0 a0 hA H)
theorem frame_last_o_f : hasFunc Try.prog 18 Try.f18 := ⟨Try.func18, rfl, by kernel_rfl⟩

/-! ### logjam/frame.Push -/
theorem frame_Push_0 (a0 : List T_api_Frame) (a1 : Int) {r : (List T_api_Frame) × Bool} (H : frame_Push a0 a1 = some r) : LJ.Spec Try.prog 6 [.d (slT enc_api_Frame a0), .d (.int .i64 a1)] [] (.tup [.d (slT enc_api_Frame r.1), .d (.bool r.2)]) [] := by
  refine LJ.Spec.code Try.func6 rfl 47 rfl rfl [] rfl fun w0 F0 S0 B0 => ?_
  unfold frame_Push at H
  refine WC.seq ?_
  refine WC.region ?_
  refine WL.run 2 tt_ok sg0 rfl rfl trivial ?_
  refine WL.nil ?_
  refine QT.n ?_
  refine WC.seq ?_
  refine WC.region ?_
  refine WL.run 1 tt_ok sg0 rfl rfl trivial ?_
  cases h1 : iEq (a0.length : Int) 0
  · replace H := of_f H h1
    obtain ⟨x2, hx2, H⟩ := of_bind H
    refine WL.call [2100] (frame_last_o_s 2100 rfl _ h1 hx2) frame_last_o_f rfl rfl trivial rfl rfl rfl ?_
    obtain ⟨g3, H⟩ := of_need H
    refine WL.run 5 tt_ok sg0 rfl rfl trivial ?_
    refine WL.nil ?_
    refine QT.n ?_
    refine WC.seq ?_
    refine WC.seq ?_
    refine WC.region ?_
    refine WL.run 1 tt_ok sg0 rfl rfl trivial ?_
    refine WL.yv (LJ.Y.req rfl rfl rfl (by kernel_rfl)) rfl rfl rfl ?_
    refine WL.run 1 tt_ok sg0 rfl rfl trivial ?_
    refine WL.grun 2 2 false 15 tt_ok sg0 rfl rfl rfl rfl trivial ?_
    refine WL.gyv (LJ.Y.fieldRel (fo := 2) rfl rfl (by kernel_rfl)) rfl rfl rfl rfl rfl rfl ?_
    refine WL.gyv (LJ.Y.loadRel enc_api_Frame x2 (IntKind.i64.wrap ((((([] : List T_api_Frame) ++ a0).map enc_api_Frame).length : Int) - 1)) 2 rfl rfl (fun _ => rfl) rfl (by kernel_rfl) rfl (by first | exact nIn_ok g3 | (have := nIn_ok g3; simpa only [List.length_set, List.length_map] using this))) rfl rfl rfl rfl rfl rfl ?_
    refine WL.grun 1 2 false 15 tt_ok sg0 rfl rfl rfl rfl trivial ?_
    refine WL.pickF rfl rfl rfl rfl rfl rfl ?_
    refine WL.run 1 tt_ok sg0 rfl rfl trivial ?_
    refine WL.split (g := 22) rfl (fun h4 => ?_) (fun h4 => ?_)
    · replace H := of_t H h4
      refine WL.gskips 5 9 false 22 rfl rfl rfl rfl ?_
      refine WL.pickT rfl rfl rfl rfl rfl rfl ?_
      refine WL.nil ?_
      refine QT.n ?_
      refine WC.cond rfl (fun h => ?_) (fun h => absurd h (by decide))
      refine WC.seq ?_
      refine WC.region ?_
      refine WL.run 2 tt_ok sg0 rfl rfl trivial ?_
      refine WL.nil ?_
      refine QT.n ?_
      refine WC.nilT 4 enc_api_Frame rfl ?_
      refine WC.ret ?_
      refine QT.r ?_
      cases H
      exact Ends.auto rfl rfl rfl trivial
    · replace H := of_f H h4
      refine WL.grun 2 9 false 22 tt_ok sg0 rfl rfl rfl rfl trivial ?_
      refine WL.gyv (LJ.Y.fieldRel (fo := 2) rfl rfl (by kernel_rfl)) rfl rfl rfl rfl rfl rfl ?_
      refine WL.gyv (LJ.Y.loadRel enc_api_Frame x2 (IntKind.i64.wrap ((((([] : List T_api_Frame) ++ a0).map enc_api_Frame).length : Int) - 1)) 2 rfl rfl (fun _ => rfl) rfl (by kernel_rfl) rfl (by first | exact nIn_ok g3 | (have := nIn_ok g3; simpa only [List.length_set, List.length_map] using this))) rfl rfl rfl rfl rfl rfl ?_
      refine WL.grun 1 9 false 22 tt_ok sg0 rfl rfl rfl rfl trivial ?_
      refine WL.pickF rfl rfl rfl rfl rfl rfl ?_
      refine WL.nil ?_
      refine QT.n ?_
      refine WC.cond rfl (fun h5 => ?_) (fun h5 => ?_)
      · replace H := of_t H h5
        refine WC.seq ?_
        refine WC.region ?_
        refine WL.run 2 tt_ok sg0 rfl rfl trivial ?_
        refine WL.nil ?_
        refine QT.n ?_
        refine WC.nilT 4 enc_api_Frame rfl ?_
        refine WC.ret ?_
        refine QT.r ?_
        cases H
        exact Ends.auto rfl rfl rfl trivial
      replace H := of_f H h5
      refine WC.skip ?_
      refine QT.n ?_
      refine WC.seq ?_
      obtain ⟨x4_6_1, hx4_6_1, H⟩ := of_bind H
      obtain ⟨g4_9_1, H⟩ := of_need H
      refine WC.heldF [(6, .own 2100), (7, .rel 2100 ((IntKind.i64.wrap ((((([] : List T_api_Frame) ++ a0).map enc_api_Frame).length : Int) - 1)).toNat * 27))] [(2100, .row 45 27 ((x2.set (IntKind.i64.wrap ((((([] : List T_api_Frame) ++ a0).map enc_api_Frame).length : Int) - 1)).toNat (⟨(x2.getD (IntKind.i64.wrap ((((([] : List T_api_Frame) ++ a0).map enc_api_Frame).length : Int) - 1)).toNat default).Fn, (x2.getD (IntKind.i64.wrap ((((([] : List T_api_Frame) ++ a0).map enc_api_Frame).length : Int) - 1)).toNat default).Pc, (x2.getD (IntKind.i64.wrap ((((([] : List T_api_Frame) ++ a0).map enc_api_Frame).length : Int) - 1)).toNat default).N, ((x2.getD (IntKind.i64.wrap ((((([] : List T_api_Frame) ++ a0).map enc_api_Frame).length : Int) - 1)).toNat default).L), (aset 16 ((x2.getD (IntKind.i64.wrap ((((([] : List T_api_Frame) ++ a0).map enc_api_Frame).length : Int) - 1)).toNat default).S) ((x2.getD (IntKind.i64.wrap ((((([] : List T_api_Frame) ++ a0).map enc_api_Frame).length : Int) - 1)).toNat default).N).toNat x4_6_1)⟩ : T_api_Frame)).map enc_api_Frame))] (.one 0 true (.one 1 true (.one 2 true (.one 3 true (.one 5 true (.one 7 true (.one 8 true (.fork (.one 4 false (.one 6 false (.one 9 true (.one 10 false .done)))) (.one 6 false (.one 4 false (.one 9 true (.one 10 false .done)))))))))))) [2100, 1002100] [] rfl (by kernel_rfl) rfl (by kernel_rfl) rfl rfl (fun _ h => h) rfl rfl rfl (fun FK NK wK K => ?_) ?_
      · refine WH.run 3 tt_ok rfl rfl rfl rfl trivial ?_
        refine WH.yv rfl (LJ.Y.fieldRel (fo := 2) rfl rfl (by kernel_rfl)) rfl rfl rfl ?_
        refine WH.run 2 tt_ok rfl rfl rfl rfl trivial ?_
        refine WH.yv rfl (LJ.Y.fieldRel (fo := 11) rfl rfl (by kernel_rfl)) rfl rfl rfl ?_
        refine WH.fork ?_ ?_
        · refine WH.yvs rfl (LJ.Y.loadRel enc_api_Frame x2 (IntKind.i64.wrap ((((([] : List T_api_Frame) ++ a0).map enc_api_Frame).length : Int) - 1)) 2 rfl rfl (fun _ => rfl) rfl (by kernel_rfl) rfl (by first | exact nIn_ok g3 | (have := nIn_ok g3; simpa only [List.length_set, List.length_map] using this))) rfl rfl rfl rfl rfl ?_
          refine WH.call [] rfl (word_Low_0 _ hx4_6_1) word_Low_f rfl rfl trivial rfl rfl rfl rfl rfl ?_
          refine WH.yv rfl (LJ.Y.idxRelA 16 ((x2.getD (IntKind.i64.wrap ((((([] : List T_api_Frame) ++ a0).map enc_api_Frame).length : Int) - 1)).toNat default).N) (by kernel_rfl) rfl rfl rfl (nIn_ok g4_9_1)) rfl rfl rfl ?_
          refine WH.step rfl (WO.storeRelA enc_api_Frame x2 16 11 (fun x : Int => DV.int .i64 x) ((x2.getD (IntKind.i64.wrap ((((([] : List T_api_Frame) ++ a0).map enc_api_Frame).length : Int) - 1)).toNat default).S) x4_6_1 (⟨(x2.getD (IntKind.i64.wrap ((((([] : List T_api_Frame) ++ a0).map enc_api_Frame).length : Int) - 1)).toNat default).Fn, (x2.getD (IntKind.i64.wrap ((((([] : List T_api_Frame) ++ a0).map enc_api_Frame).length : Int) - 1)).toNat default).Pc, (x2.getD (IntKind.i64.wrap ((((([] : List T_api_Frame) ++ a0).map enc_api_Frame).length : Int) - 1)).toNat default).N, ((x2.getD (IntKind.i64.wrap ((((([] : List T_api_Frame) ++ a0).map enc_api_Frame).length : Int) - 1)).toNat default).L), (aset 16 ((x2.getD (IntKind.i64.wrap ((((([] : List T_api_Frame) ++ a0).map enc_api_Frame).length : Int) - 1)).toNat default).S) ((x2.getD (IntKind.i64.wrap ((((([] : List T_api_Frame) ++ a0).map enc_api_Frame).length : Int) - 1)).toNat default).N).toNat x4_6_1)⟩ : T_api_Frame) (IntKind.i64.wrap ((((([] : List T_api_Frame) ++ a0).map enc_api_Frame).length : Int) - 1)) ((x2.getD (IntKind.i64.wrap ((((([] : List T_api_Frame) ++ a0).map enc_api_Frame).length : Int) - 1)).toNat default).N) rfl rfl rfl rfl (fun _ => rfl) rfl (by kernel_rfl) rfl rfl rfl (nIn_ok g4_9_1) (by first | exact nIn_ok g3 | (have := nIn_ok g3; simpa only [List.length_set, List.length_map] using this)) rfl rfl rfl) rfl rfl rfl ?_
          exact WH.nilF rfl (LessW.mk' ⟨AVle.of rfl, AVle.of rfl, trivial⟩ ⟨rfl, trivial⟩)
        · refine WH.call [] rfl (word_Low_0 _ hx4_6_1) word_Low_f rfl rfl trivial rfl rfl rfl rfl rfl ?_
          refine WH.yvs rfl (LJ.Y.loadRel enc_api_Frame x2 (IntKind.i64.wrap ((((([] : List T_api_Frame) ++ a0).map enc_api_Frame).length : Int) - 1)) 2 rfl rfl (fun _ => rfl) rfl (by kernel_rfl) rfl (by first | exact nIn_ok g3 | (have := nIn_ok g3; simpa only [List.length_set, List.length_map] using this))) rfl rfl rfl rfl rfl ?_
          refine WH.yv rfl (LJ.Y.idxRelA 16 ((x2.getD (IntKind.i64.wrap ((((([] : List T_api_Frame) ++ a0).map enc_api_Frame).length : Int) - 1)).toNat default).N) (by kernel_rfl) rfl rfl rfl (nIn_ok g4_9_1)) rfl rfl rfl ?_
          refine WH.step rfl (WO.storeRelA enc_api_Frame x2 16 11 (fun x : Int => DV.int .i64 x) ((x2.getD (IntKind.i64.wrap ((((([] : List T_api_Frame) ++ a0).map enc_api_Frame).length : Int) - 1)).toNat default).S) x4_6_1 (⟨(x2.getD (IntKind.i64.wrap ((((([] : List T_api_Frame) ++ a0).map enc_api_Frame).length : Int) - 1)).toNat default).Fn, (x2.getD (IntKind.i64.wrap ((((([] : List T_api_Frame) ++ a0).map enc_api_Frame).length : Int) - 1)).toNat default).Pc, (x2.getD (IntKind.i64.wrap ((((([] : List T_api_Frame) ++ a0).map enc_api_Frame).length : Int) - 1)).toNat default).N, ((x2.getD (IntKind.i64.wrap ((((([] : List T_api_Frame) ++ a0).map enc_api_Frame).length : Int) - 1)).toNat default).L), (aset 16 ((x2.getD (IntKind.i64.wrap ((((([] : List T_api_Frame) ++ a0).map enc_api_Frame).length : Int) - 1)).toNat default).S) ((x2.getD (IntKind.i64.wrap ((((([] : List T_api_Frame) ++ a0).map enc_api_Frame).length : Int) - 1)).toNat default).N).toNat x4_6_1)⟩ : T_api_Frame) (IntKind.i64.wrap ((((([] : List T_api_Frame) ++ a0).map enc_api_Frame).length : Int) - 1)) ((x2.getD (IntKind.i64.wrap ((((([] : List T_api_Frame) ++ a0).map enc_api_Frame).length : Int) - 1)).toNat default).N) rfl rfl rfl rfl (fun _ => rfl) rfl (by kernel_rfl) rfl rfl rfl (nIn_ok g4_9_1) (by first | exact nIn_ok g3 | (have := nIn_ok g3; simpa only [List.length_set, List.length_map] using this)) rfl rfl rfl) rfl rfl rfl ?_
          exact WH.nilF rfl (LessW.mk' ⟨AVle.of rfl, AVle.of rfl, trivial⟩ ⟨rfl, trivial⟩)
      · refine QT.n ?_
        refine WC.seq ?_
        refine WC.region ?_
        refine WL.run 2 tt_ok sg0 rfl rfl trivial ?_
        refine WL.yv (LJ.Y.fieldRel (fo := 2) rfl rfl (by kernel_rfl)) rfl rfl rfl ?_
        refine WL.yv (LJ.Y.loadRel enc_api_Frame (x2.set (IntKind.i64.wrap ((((([] : List T_api_Frame) ++ a0).map enc_api_Frame).length : Int) - 1)).toNat (⟨(x2.getD (IntKind.i64.wrap ((((([] : List T_api_Frame) ++ a0).map enc_api_Frame).length : Int) - 1)).toNat default).Fn, (x2.getD (IntKind.i64.wrap ((((([] : List T_api_Frame) ++ a0).map enc_api_Frame).length : Int) - 1)).toNat default).Pc, (x2.getD (IntKind.i64.wrap ((((([] : List T_api_Frame) ++ a0).map enc_api_Frame).length : Int) - 1)).toNat default).N, ((x2.getD (IntKind.i64.wrap ((((([] : List T_api_Frame) ++ a0).map enc_api_Frame).length : Int) - 1)).toNat default).L), (aset 16 ((x2.getD (IntKind.i64.wrap ((((([] : List T_api_Frame) ++ a0).map enc_api_Frame).length : Int) - 1)).toNat default).S) ((x2.getD (IntKind.i64.wrap ((((([] : List T_api_Frame) ++ a0).map enc_api_Frame).length : Int) - 1)).toNat default).N).toNat x4_6_1)⟩ : T_api_Frame)) (IntKind.i64.wrap ((((([] : List T_api_Frame) ++ a0).map enc_api_Frame).length : Int) - 1)) 2 rfl rfl (fun _ => rfl) rfl (by kernel_rfl) rfl (by first | exact nIn_ok g3 | (have := nIn_ok g3; simpa only [List.length_set, List.length_map] using this))) rfl rfl rfl ?_
        refine WL.run 2 tt_ok sg0 rfl rfl trivial ?_
        refine WL.yv (LJ.Y.fieldRel (fo := 2) rfl rfl (by kernel_rfl)) rfl rfl rfl ?_
        refine WL.storeRel enc_api_Frame (x2.set (IntKind.i64.wrap ((((([] : List T_api_Frame) ++ a0).map enc_api_Frame).length : Int) - 1)).toNat (⟨(x2.getD (IntKind.i64.wrap ((((([] : List T_api_Frame) ++ a0).map enc_api_Frame).length : Int) - 1)).toNat default).Fn, (x2.getD (IntKind.i64.wrap ((((([] : List T_api_Frame) ++ a0).map enc_api_Frame).length : Int) - 1)).toNat default).Pc, (x2.getD (IntKind.i64.wrap ((((([] : List T_api_Frame) ++ a0).map enc_api_Frame).length : Int) - 1)).toNat default).N, ((x2.getD (IntKind.i64.wrap ((((([] : List T_api_Frame) ++ a0).map enc_api_Frame).length : Int) - 1)).toNat default).L), (aset 16 ((x2.getD (IntKind.i64.wrap ((((([] : List T_api_Frame) ++ a0).map enc_api_Frame).length : Int) - 1)).toNat default).S) ((x2.getD (IntKind.i64.wrap ((((([] : List T_api_Frame) ++ a0).map enc_api_Frame).length : Int) - 1)).toNat default).N).toNat x4_6_1)⟩ : T_api_Frame)) (IntKind.i64.wrap ((((([] : List T_api_Frame) ++ a0).map enc_api_Frame).length : Int) - 1)) 2 (⟨((x2.set (IntKind.i64.wrap ((((([] : List T_api_Frame) ++ a0).map enc_api_Frame).length : Int) - 1)).toNat (⟨(x2.getD (IntKind.i64.wrap ((((([] : List T_api_Frame) ++ a0).map enc_api_Frame).length : Int) - 1)).toNat default).Fn, (x2.getD (IntKind.i64.wrap ((((([] : List T_api_Frame) ++ a0).map enc_api_Frame).length : Int) - 1)).toNat default).Pc, (x2.getD (IntKind.i64.wrap ((((([] : List T_api_Frame) ++ a0).map enc_api_Frame).length : Int) - 1)).toNat default).N, ((x2.getD (IntKind.i64.wrap ((((([] : List T_api_Frame) ++ a0).map enc_api_Frame).length : Int) - 1)).toNat default).L), (aset 16 ((x2.getD (IntKind.i64.wrap ((((([] : List T_api_Frame) ++ a0).map enc_api_Frame).length : Int) - 1)).toNat default).S) ((x2.getD (IntKind.i64.wrap ((((([] : List T_api_Frame) ++ a0).map enc_api_Frame).length : Int) - 1)).toNat default).N).toNat x4_6_1)⟩ : T_api_Frame)).getD (IntKind.i64.wrap ((((([] : List T_api_Frame) ++ a0).map enc_api_Frame).length : Int) - 1)).toNat default).Fn, ((x2.set (IntKind.i64.wrap ((((([] : List T_api_Frame) ++ a0).map enc_api_Frame).length : Int) - 1)).toNat (⟨(x2.getD (IntKind.i64.wrap ((((([] : List T_api_Frame) ++ a0).map enc_api_Frame).length : Int) - 1)).toNat default).Fn, (x2.getD (IntKind.i64.wrap ((((([] : List T_api_Frame) ++ a0).map enc_api_Frame).length : Int) - 1)).toNat default).Pc, (x2.getD (IntKind.i64.wrap ((((([] : List T_api_Frame) ++ a0).map enc_api_Frame).length : Int) - 1)).toNat default).N, ((x2.getD (IntKind.i64.wrap ((((([] : List T_api_Frame) ++ a0).map enc_api_Frame).length : Int) - 1)).toNat default).L), (aset 16 ((x2.getD (IntKind.i64.wrap ((((([] : List T_api_Frame) ++ a0).map enc_api_Frame).length : Int) - 1)).toNat default).S) ((x2.getD (IntKind.i64.wrap ((((([] : List T_api_Frame) ++ a0).map enc_api_Frame).length : Int) - 1)).toNat default).N).toNat x4_6_1)⟩ : T_api_Frame)).getD (IntKind.i64.wrap ((((([] : List T_api_Frame) ++ a0).map enc_api_Frame).length : Int) - 1)).toNat default).Pc, IntKind.i64.wrap ((((x2.set (IntKind.i64.wrap ((((([] : List T_api_Frame) ++ a0).map enc_api_Frame).length : Int) - 1)).toNat (⟨(x2.getD (IntKind.i64.wrap ((((([] : List T_api_Frame) ++ a0).map enc_api_Frame).length : Int) - 1)).toNat default).Fn, (x2.getD (IntKind.i64.wrap ((((([] : List T_api_Frame) ++ a0).map enc_api_Frame).length : Int) - 1)).toNat default).Pc, (x2.getD (IntKind.i64.wrap ((((([] : List T_api_Frame) ++ a0).map enc_api_Frame).length : Int) - 1)).toNat default).N, ((x2.getD (IntKind.i64.wrap ((((([] : List T_api_Frame) ++ a0).map enc_api_Frame).length : Int) - 1)).toNat default).L), (aset 16 ((x2.getD (IntKind.i64.wrap ((((([] : List T_api_Frame) ++ a0).map enc_api_Frame).length : Int) - 1)).toNat default).S) ((x2.getD (IntKind.i64.wrap ((((([] : List T_api_Frame) ++ a0).map enc_api_Frame).length : Int) - 1)).toNat default).N).toNat x4_6_1)⟩ : T_api_Frame)).getD (IntKind.i64.wrap ((((([] : List T_api_Frame) ++ a0).map enc_api_Frame).length : Int) - 1)).toNat default).N) + 1), (((x2.set (IntKind.i64.wrap ((((([] : List T_api_Frame) ++ a0).map enc_api_Frame).length : Int) - 1)).toNat (⟨(x2.getD (IntKind.i64.wrap ((((([] : List T_api_Frame) ++ a0).map enc_api_Frame).length : Int) - 1)).toNat default).Fn, (x2.getD (IntKind.i64.wrap ((((([] : List T_api_Frame) ++ a0).map enc_api_Frame).length : Int) - 1)).toNat default).Pc, (x2.getD (IntKind.i64.wrap ((((([] : List T_api_Frame) ++ a0).map enc_api_Frame).length : Int) - 1)).toNat default).N, ((x2.getD (IntKind.i64.wrap ((((([] : List T_api_Frame) ++ a0).map enc_api_Frame).length : Int) - 1)).toNat default).L), (aset 16 ((x2.getD (IntKind.i64.wrap ((((([] : List T_api_Frame) ++ a0).map enc_api_Frame).length : Int) - 1)).toNat default).S) ((x2.getD (IntKind.i64.wrap ((((([] : List T_api_Frame) ++ a0).map enc_api_Frame).length : Int) - 1)).toNat default).N).toNat x4_6_1)⟩ : T_api_Frame)).getD (IntKind.i64.wrap ((((([] : List T_api_Frame) ++ a0).map enc_api_Frame).length : Int) - 1)).toNat default).L), (((x2.set (IntKind.i64.wrap ((((([] : List T_api_Frame) ++ a0).map enc_api_Frame).length : Int) - 1)).toNat (⟨(x2.getD (IntKind.i64.wrap ((((([] : List T_api_Frame) ++ a0).map enc_api_Frame).length : Int) - 1)).toNat default).Fn, (x2.getD (IntKind.i64.wrap ((((([] : List T_api_Frame) ++ a0).map enc_api_Frame).length : Int) - 1)).toNat default).Pc, (x2.getD (IntKind.i64.wrap ((((([] : List T_api_Frame) ++ a0).map enc_api_Frame).length : Int) - 1)).toNat default).N, ((x2.getD (IntKind.i64.wrap ((((([] : List T_api_Frame) ++ a0).map enc_api_Frame).length : Int) - 1)).toNat default).L), (aset 16 ((x2.getD (IntKind.i64.wrap ((((([] : List T_api_Frame) ++ a0).map enc_api_Frame).length : Int) - 1)).toNat default).S) ((x2.getD (IntKind.i64.wrap ((((([] : List T_api_Frame) ++ a0).map enc_api_Frame).length : Int) - 1)).toNat default).N).toNat x4_6_1)⟩ : T_api_Frame)).getD (IntKind.i64.wrap ((((([] : List T_api_Frame) ++ a0).map enc_api_Frame).length : Int) - 1)).toNat default).S)⟩ : T_api_Frame) (.int .i64 (IntKind.i64.wrap ((((x2.set (IntKind.i64.wrap ((((([] : List T_api_Frame) ++ a0).map enc_api_Frame).length : Int) - 1)).toNat (⟨(x2.getD (IntKind.i64.wrap ((((([] : List T_api_Frame) ++ a0).map enc_api_Frame).length : Int) - 1)).toNat default).Fn, (x2.getD (IntKind.i64.wrap ((((([] : List T_api_Frame) ++ a0).map enc_api_Frame).length : Int) - 1)).toNat default).Pc, (x2.getD (IntKind.i64.wrap ((((([] : List T_api_Frame) ++ a0).map enc_api_Frame).length : Int) - 1)).toNat default).N, ((x2.getD (IntKind.i64.wrap ((((([] : List T_api_Frame) ++ a0).map enc_api_Frame).length : Int) - 1)).toNat default).L), (aset 16 ((x2.getD (IntKind.i64.wrap ((((([] : List T_api_Frame) ++ a0).map enc_api_Frame).length : Int) - 1)).toNat default).S) ((x2.getD (IntKind.i64.wrap ((((([] : List T_api_Frame) ++ a0).map enc_api_Frame).length : Int) - 1)).toNat default).N).toNat x4_6_1)⟩ : T_api_Frame)).getD (IntKind.i64.wrap ((((([] : List T_api_Frame) ++ a0).map enc_api_Frame).length : Int) - 1)).toNat default).N) + 1))) rfl rfl rfl rfl (fun _ => rfl) rfl (by kernel_rfl) rfl rfl (by first | exact nIn_ok g3 | (have := nIn_ok g3; simpa only [List.length_set, List.length_map] using this)) rfl rfl rfl rfl ?_
        refine WL.nil ?_
        refine QT.n ?_
        refine WC.seq ?_
        refine WC.region ?_
        refine WL.run 3 tt_ok sg0 rfl rfl trivial ?_
        refine WL.nil ?_
        refine QT.n ?_
        refine WC.freezeT 2100 enc_api_Frame ((x2.set (IntKind.i64.wrap ((((([] : List T_api_Frame) ++ a0).map enc_api_Frame).length : Int) - 1)).toNat (⟨(x2.getD (IntKind.i64.wrap ((((([] : List T_api_Frame) ++ a0).map enc_api_Frame).length : Int) - 1)).toNat default).Fn, (x2.getD (IntKind.i64.wrap ((((([] : List T_api_Frame) ++ a0).map enc_api_Frame).length : Int) - 1)).toNat default).Pc, (x2.getD (IntKind.i64.wrap ((((([] : List T_api_Frame) ++ a0).map enc_api_Frame).length : Int) - 1)).toNat default).N, ((x2.getD (IntKind.i64.wrap ((((([] : List T_api_Frame) ++ a0).map enc_api_Frame).length : Int) - 1)).toNat default).L), (aset 16 ((x2.getD (IntKind.i64.wrap ((((([] : List T_api_Frame) ++ a0).map enc_api_Frame).length : Int) - 1)).toNat default).S) ((x2.getD (IntKind.i64.wrap ((((([] : List T_api_Frame) ++ a0).map enc_api_Frame).length : Int) - 1)).toNat default).N).toNat x4_6_1)⟩ : T_api_Frame)).set (IntKind.i64.wrap ((((([] : List T_api_Frame) ++ a0).map enc_api_Frame).length : Int) - 1)).toNat (⟨((x2.set (IntKind.i64.wrap ((((([] : List T_api_Frame) ++ a0).map enc_api_Frame).length : Int) - 1)).toNat (⟨(x2.getD (IntKind.i64.wrap ((((([] : List T_api_Frame) ++ a0).map enc_api_Frame).length : Int) - 1)).toNat default).Fn, (x2.getD (IntKind.i64.wrap ((((([] : List T_api_Frame) ++ a0).map enc_api_Frame).length : Int) - 1)).toNat default).Pc, (x2.getD (IntKind.i64.wrap ((((([] : List T_api_Frame) ++ a0).map enc_api_Frame).length : Int) - 1)).toNat default).N, ((x2.getD (IntKind.i64.wrap ((((([] : List T_api_Frame) ++ a0).map enc_api_Frame).length : Int) - 1)).toNat default).L), (aset 16 ((x2.getD (IntKind.i64.wrap ((((([] : List T_api_Frame) ++ a0).map enc_api_Frame).length : Int) - 1)).toNat default).S) ((x2.getD (IntKind.i64.wrap ((((([] : List T_api_Frame) ++ a0).map enc_api_Frame).length : Int) - 1)).toNat default).N).toNat x4_6_1)⟩ : T_api_Frame)).getD (IntKind.i64.wrap ((((([] : List T_api_Frame) ++ a0).map enc_api_Frame).length : Int) - 1)).toNat default).Fn, ((x2.set (IntKind.i64.wrap ((((([] : List T_api_Frame) ++ a0).map enc_api_Frame).length : Int) - 1)).toNat (⟨(x2.getD (IntKind.i64.wrap ((((([] : List T_api_Frame) ++ a0).map enc_api_Frame).length : Int) - 1)).toNat default).Fn, (x2.getD (IntKind.i64.wrap ((((([] : List T_api_Frame) ++ a0).map enc_api_Frame).length : Int) - 1)).toNat default).Pc, (x2.getD (IntKind.i64.wrap ((((([] : List T_api_Frame) ++ a0).map enc_api_Frame).length : Int) - 1)).toNat default).N, ((x2.getD (IntKind.i64.wrap ((((([] : List T_api_Frame) ++ a0).map enc_api_Frame).length : Int) - 1)).toNat default).L), (aset 16 ((x2.getD (IntKind.i64.wrap ((((([] : List T_api_Frame) ++ a0).map enc_api_Frame).length : Int) - 1)).toNat default).S) ((x2.getD (IntKind.i64.wrap ((((([] : List T_api_Frame) ++ a0).map enc_api_Frame).length : Int) - 1)).toNat default).N).toNat x4_6_1)⟩ : T_api_Frame)).getD (IntKind.i64.wrap ((((([] : List T_api_Frame) ++ a0).map enc_api_Frame).length : Int) - 1)).toNat default).Pc, IntKind.i64.wrap ((((x2.set (IntKind.i64.wrap ((((([] : List T_api_Frame) ++ a0).map enc_api_Frame).length : Int) - 1)).toNat (⟨(x2.getD (IntKind.i64.wrap ((((([] : List T_api_Frame) ++ a0).map enc_api_Frame).length : Int) - 1)).toNat default).Fn, (x2.getD (IntKind.i64.wrap ((((([] : List T_api_Frame) ++ a0).map enc_api_Frame).length : Int) - 1)).toNat default).Pc, (x2.getD (IntKind.i64.wrap ((((([] : List T_api_Frame) ++ a0).map enc_api_Frame).length : Int) - 1)).toNat default).N, ((x2.getD (IntKind.i64.wrap ((((([] : List T_api_Frame) ++ a0).map enc_api_Frame).length : Int) - 1)).toNat default).L), (aset 16 ((x2.getD (IntKind.i64.wrap ((((([] : List T_api_Frame) ++ a0).map enc_api_Frame).length : Int) - 1)).toNat default).S) ((x2.getD (IntKind.i64.wrap ((((([] : List T_api_Frame) ++ a0).map enc_api_Frame).length : Int) - 1)).toNat default).N).toNat x4_6_1)⟩ : T_api_Frame)).getD (IntKind.i64.wrap ((((([] : List T_api_Frame) ++ a0).map enc_api_Frame).length : Int) - 1)).toNat default).N) + 1), (((x2.set (IntKind.i64.wrap ((((([] : List T_api_Frame) ++ a0).map enc_api_Frame).length : Int) - 1)).toNat (⟨(x2.getD (IntKind.i64.wrap ((((([] : List T_api_Frame) ++ a0).map enc_api_Frame).length : Int) - 1)).toNat default).Fn, (x2.getD (IntKind.i64.wrap ((((([] : List T_api_Frame) ++ a0).map enc_api_Frame).length : Int) - 1)).toNat default).Pc, (x2.getD (IntKind.i64.wrap ((((([] : List T_api_Frame) ++ a0).map enc_api_Frame).length : Int) - 1)).toNat default).N, ((x2.getD (IntKind.i64.wrap ((((([] : List T_api_Frame) ++ a0).map enc_api_Frame).length : Int) - 1)).toNat default).L), (aset 16 ((x2.getD (IntKind.i64.wrap ((((([] : List T_api_Frame) ++ a0).map enc_api_Frame).length : Int) - 1)).toNat default).S) ((x2.getD (IntKind.i64.wrap ((((([] : List T_api_Frame) ++ a0).map enc_api_Frame).length : Int) - 1)).toNat default).N).toNat x4_6_1)⟩ : T_api_Frame)).getD (IntKind.i64.wrap ((((([] : List T_api_Frame) ++ a0).map enc_api_Frame).length : Int) - 1)).toNat default).L), (((x2.set (IntKind.i64.wrap ((((([] : List T_api_Frame) ++ a0).map enc_api_Frame).length : Int) - 1)).toNat (⟨(x2.getD (IntKind.i64.wrap ((((([] : List T_api_Frame) ++ a0).map enc_api_Frame).length : Int) - 1)).toNat default).Fn, (x2.getD (IntKind.i64.wrap ((((([] : List T_api_Frame) ++ a0).map enc_api_Frame).length : Int) - 1)).toNat default).Pc, (x2.getD (IntKind.i64.wrap ((((([] : List T_api_Frame) ++ a0).map enc_api_Frame).length : Int) - 1)).toNat default).N, ((x2.getD (IntKind.i64.wrap ((((([] : List T_api_Frame) ++ a0).map enc_api_Frame).length : Int) - 1)).toNat default).L), (aset 16 ((x2.getD (IntKind.i64.wrap ((((([] : List T_api_Frame) ++ a0).map enc_api_Frame).length : Int) - 1)).toNat default).S) ((x2.getD (IntKind.i64.wrap ((((([] : List T_api_Frame) ++ a0).map enc_api_Frame).length : Int) - 1)).toNat default).N).toNat x4_6_1)⟩ : T_api_Frame)).getD (IntKind.i64.wrap ((((([] : List T_api_Frame) ++ a0).map enc_api_Frame).length : Int) - 1)).toNat default).S)⟩ : T_api_Frame)) rfl rfl rfl rfl ?_
        refine WC.ret ?_
        cases H
        exact Ends.auto rfl rfl rfl trivial
  · replace H := of_t H h1
    obtain ⟨x6, hx6, H⟩ := of_bind H
    refine WL.call [] (frame_last_n_0 _ h1 hx6) frame_last_n_f rfl rfl trivial rfl rfl rfl ?_
    refine WL.run 5 tt_ok sg0 rfl rfl trivial ?_
    refine WL.nil ?_
    refine QT.n ?_
    refine WC.seq ?_
    refine WC.seq ?_
    refine WC.region ?_
    refine WL.run 3 tt_ok sg0 rfl rfl trivial ?_
    refine WL.gskips 5 2 false 15 rfl rfl rfl rfl ?_
    refine WL.pickT rfl rfl rfl rfl rfl rfl ?_
    refine WL.run 1 tt_ok sg0 rfl rfl trivial ?_
    refine WL.gskips 5 9 false 22 rfl rfl rfl rfl ?_
    refine WL.pickT rfl rfl rfl rfl rfl rfl ?_
    refine WL.nil ?_
    refine QT.n ?_
    refine WC.cond rfl (fun h => ?_) (fun h => absurd h (by decide))
    refine WC.seq ?_
    refine WC.region ?_
    refine WL.run 2 tt_ok sg0 rfl rfl trivial ?_
    refine WL.nil ?_
    refine QT.n ?_
    refine WC.nilT 4 enc_api_Frame rfl ?_
    refine WC.ret ?_
    refine QT.r ?_
    cases H
    exact Ends.auto rfl rfl rfl trivial
theorem frame_Push_f : hasFunc Try.prog 6 Try.f6 := ⟨Try.func6, rfl, by kernel_rfl⟩

/-! ### logjam/frame.Pop -/
theorem frame_Pop_0 (a0 : List T_api_Frame) (a1 : Int) {r : (List T_api_Frame) × (List Int) × Bool} (H : frame_Pop a0 a1 = some r) : LJ.Spec Try.prog 7 [.d (slT enc_api_Frame a0), .d (.int .i64 a1)] [] (.tup [.own 0, .d (slT enc_i64 r.2.1), .d (.bool r.2.2)]) [(0, .row 45 27 (r.1.map enc_api_Frame))] := by
  refine LJ.Spec.code Try.func7 rfl 76 rfl rfl [] rfl fun w0 F0 S0 B0 => ?_
  unfold frame_Pop at H
  refine WC.seq ?_
  refine WC.region ?_
  refine WL.run 3 tt_ok sg0 rfl rfl trivial ?_
  refine WL.nil ?_
  refine QT.n ?_
  refine WC.seq ?_
  refine WC.region ?_
  refine WL.run 1 tt_ok sg0 rfl rfl trivial ?_
  cases h1 : iEq (a0.length : Int) 0
  · replace H := of_f H h1
    obtain ⟨x2, hx2, H⟩ := of_bind H
    refine WL.call [0] (frame_last_o_s 0 rfl _ h1 hx2) frame_last_o_f rfl rfl trivial rfl rfl rfl ?_
    obtain ⟨g3, H⟩ := of_need H
    refine WL.run 5 tt_ok sg0 rfl rfl trivial ?_
    refine WL.nil ?_
    refine QT.n ?_
    refine WC.seq ?_
    refine WC.seq ?_
    refine WC.region ?_
    refine WL.run 1 tt_ok sg0 rfl rfl trivial ?_
    refine WL.yv (LJ.Y.req rfl rfl rfl (by kernel_rfl)) rfl rfl rfl ?_
    refine WL.run 1 tt_ok sg0 rfl rfl trivial ?_
    refine WL.grun 2 2 false 17 tt_ok sg0 rfl rfl rfl rfl trivial ?_
    refine WL.pickF rfl rfl rfl rfl rfl rfl ?_
    refine WL.run 1 tt_ok sg0 rfl rfl trivial ?_
    refine WL.split (g := 21) rfl (fun h4 => ?_) (fun h4 => ?_)
    · replace H := of_t H h4
      refine WL.gskips 6 6 false 21 rfl rfl rfl rfl ?_
      refine WL.pickT rfl rfl rfl rfl rfl rfl ?_
      refine WL.run 1 tt_ok sg0 rfl rfl trivial ?_
      refine WL.gskips 5 14 false 29 rfl rfl rfl rfl ?_
      refine WL.pickT rfl rfl rfl rfl rfl rfl ?_
      refine WL.nil ?_
      refine QT.n ?_
      refine WC.cond rfl (fun h => ?_) (fun h => absurd h (by decide))
      refine WC.seq ?_
      refine WC.region ?_
      refine WL.run 3 tt_ok sg0 rfl rfl trivial ?_
      refine WL.nil ?_
      refine QT.n ?_
      refine WC.nilrow (t := 4) 0 45 27 rfl rfl rfl ?_
      refine WC.row 0 (([] : List T_api_Frame).map enc_api_Frame) rfl rfl rfl ?_
      refine WC.nilT 5 enc_i64 rfl ?_
      refine WC.ret ?_
      refine QT.r ?_
      cases H
      exact Ends.auto rfl rfl rfl ⟨rfl, trivial⟩
    · replace H := of_f H h4
      refine WL.grun 3 6 false 21 tt_ok sg0 rfl rfl rfl rfl trivial ?_
      refine WL.gyv (LJ.Y.fieldRel (fo := 2) rfl rfl (by kernel_rfl)) rfl rfl rfl rfl rfl rfl ?_
      refine WL.gyv (LJ.Y.loadRel enc_api_Frame x2 (IntKind.i64.wrap ((((([] : List T_api_Frame) ++ a0).map enc_api_Frame).length : Int) - 1)) 2 rfl rfl (fun _ => rfl) rfl (by kernel_rfl) rfl (by first | exact nIn_ok g3 | (have := nIn_ok g3; simpa only [List.length_set, List.length_map] using this))) rfl rfl rfl rfl rfl rfl ?_
      refine WL.grun 1 6 false 21 tt_ok sg0 rfl rfl rfl rfl trivial ?_
      refine WL.pickF rfl rfl rfl rfl rfl rfl ?_
      refine WL.run 1 tt_ok sg0 rfl rfl trivial ?_
      refine WL.split (g := 29) rfl (fun h5 => ?_) (fun h5 => ?_)
      · replace H := of_t H h5
        refine WL.gskips 5 14 false 29 rfl rfl rfl rfl ?_
        refine WL.pickT rfl rfl rfl rfl rfl rfl ?_
        refine WL.nil ?_
        refine QT.n ?_
        refine WC.cond rfl (fun h => ?_) (fun h => absurd h (by decide))
        refine WC.seq ?_
        refine WC.region ?_
        refine WL.run 3 tt_ok sg0 rfl rfl trivial ?_
        refine WL.nil ?_
        refine QT.n ?_
        refine WC.nilrow (t := 4) 0 45 27 rfl rfl rfl ?_
        refine WC.row 0 (([] : List T_api_Frame).map enc_api_Frame) rfl rfl rfl ?_
        refine WC.nilT 5 enc_i64 rfl ?_
        refine WC.ret ?_
        refine QT.r ?_
        cases H
        exact Ends.auto rfl rfl rfl ⟨rfl, trivial⟩
      · replace H := of_f H h5
        refine WL.grun 2 14 false 29 tt_ok sg0 rfl rfl rfl rfl trivial ?_
        refine WL.gyv (LJ.Y.fieldRel (fo := 2) rfl rfl (by kernel_rfl)) rfl rfl rfl rfl rfl rfl ?_
        refine WL.gyv (LJ.Y.loadRel enc_api_Frame x2 (IntKind.i64.wrap ((((([] : List T_api_Frame) ++ a0).map enc_api_Frame).length : Int) - 1)) 2 rfl rfl (fun _ => rfl) rfl (by kernel_rfl) rfl (by first | exact nIn_ok g3 | (have := nIn_ok g3; simpa only [List.length_set, List.length_map] using this))) rfl rfl rfl rfl rfl rfl ?_
        refine WL.grun 1 14 false 29 tt_ok sg0 rfl rfl rfl rfl trivial ?_
        refine WL.pickF rfl rfl rfl rfl rfl rfl ?_
        refine WL.nil ?_
        refine QT.n ?_
        refine WC.cond rfl (fun h6 => ?_) (fun h6 => ?_)
        · replace H := of_t H h6
          refine WC.seq ?_
          refine WC.region ?_
          refine WL.run 3 tt_ok sg0 rfl rfl trivial ?_
          refine WL.nil ?_
          refine QT.n ?_
          refine WC.nilrow (t := 4) 0 45 27 rfl rfl rfl ?_
          refine WC.row 0 (([] : List T_api_Frame).map enc_api_Frame) rfl rfl rfl ?_
          refine WC.nilT 5 enc_i64 rfl ?_
          refine WC.ret ?_
          refine QT.r ?_
          cases H
          exact Ends.auto rfl rfl rfl ⟨rfl, trivial⟩
        replace H := of_f H h6
        refine WC.skip ?_
        refine QT.n ?_
        refine WC.seq ?_
        refine WC.heldP (.one 1 true (.one 2 true (.one 3 true (.one 4 true (.one 5 true (.one 6 true (.one 7 true (.one 8 true (.one 9 true (.one 10 true (.one 11 true (.one 12 true (.one 13 true (.one 14 true (.one 0 false (.one 15 false (.one 16 true .done))))))))))))))))) [0, 1000000] [0] rfl (by kernel_rfl) rfl (by kernel_rfl) rfl rfl (fun _ h => h) rfl rfl rfl (fun _ _ _ h => h) fun FK NK wK K => ?_
        refine WH.run 2 tt_ok rfl rfl rfl rfl trivial ?_
        refine WH.yv rfl (LJ.Y.fieldRel (fo := 11) rfl rfl (by kernel_rfl)) rfl rfl rfl ?_
        refine WH.run 2 tt_ok rfl rfl rfl rfl trivial ?_
        refine WH.yv rfl (LJ.Y.fieldRel (fo := 2) rfl rfl (by kernel_rfl)) rfl rfl rfl ?_
        refine WH.yv rfl (LJ.Y.loadRel enc_api_Frame x2 (IntKind.i64.wrap ((((([] : List T_api_Frame) ++ a0).map enc_api_Frame).length : Int) - 1)) 2 rfl rfl (fun _ => rfl) rfl (by kernel_rfl) rfl (by first | exact nIn_ok g3 | (have := nIn_ok g3; simpa only [List.length_set, List.length_map] using this))) rfl rfl rfl ?_
        refine WH.run 4 tt_ok rfl rfl rfl rfl trivial ?_
        refine WH.yv rfl (LJ.Y.fieldRel (fo := 2) rfl rfl (by kernel_rfl)) rfl rfl rfl ?_
        refine WH.yv rfl (LJ.Y.loadRel enc_api_Frame x2 (IntKind.i64.wrap ((((([] : List T_api_Frame) ++ a0).map enc_api_Frame).length : Int) - 1)) 2 rfl rfl (fun _ => rfl) rfl (by kernel_rfl) rfl (by first | exact nIn_ok g3 | (have := nIn_ok g3; simpa only [List.length_set, List.length_map] using this))) rfl rfl rfl ?_
        obtain ⟨g7, H⟩ := of_need H
        refine WH.yv rfl (LJ.Y.sliceRsl 16 (IntKind.i64.wrap (((x2.getD (IntKind.i64.wrap ((((([] : List T_api_Frame) ++ a0).map enc_api_Frame).length : Int) - 1)).toNat default).N) - a1)) ((x2.getD (IntKind.i64.wrap ((((([] : List T_api_Frame) ++ a0).map enc_api_Frame).length : Int) - 1)).toNat default).N) (by kernel_rfl) rfl rfl ⟨_, rfl⟩ ⟨_, rfl⟩ (nSl_ok g7)) rfl rfl rfl ?_
        refine WH.eff 136 tt_ok et_ok rfl rfl rfl rfl trivial rfl rfl ?_
        refine WH.row 136 (([] : List Int).map enc_i64) rfl rfl rfl ?_
        obtain ⟨g8, H⟩ := of_need H
        refine WH.appRsl enc_i64 ([] : List Int) enc_api_Frame x2 16 11 (fun x => DV.int .i64 x) ((x2.getD (IntKind.i64.wrap ((((([] : List T_api_Frame) ++ a0).map enc_api_Frame).length : Int) - 1)).toNat default).S) (IntKind.i64.wrap ((((([] : List T_api_Frame) ++ a0).map enc_api_Frame).length : Int) - 1)) (IntKind.i64.wrap (((x2.getD (IntKind.i64.wrap ((((([] : List T_api_Frame) ++ a0).map enc_api_Frame).length : Int) - 1)).toNat default).N) - a1)) ((x2.getD (IntKind.i64.wrap ((((([] : List T_api_Frame) ++ a0).map enc_api_Frame).length : Int) - 1)).toNat default).N) tt_ok et_ok rfl rfl rfl (fun _ => rfl) rfl rfl rfl rfl rfl (fun _ => rfl) rfl rfl rfl (nSl_ok g7) (by first | exact nIn_ok g3 | (have := nIn_ok g3; simpa only [List.length_set, List.length_map] using this)) (nCap_ok g8) rfl rfl rfl rfl rfl rfl rfl ?_
        refine WH.mv rfl rfl rfl rfl rfl rfl rfl rfl rfl ?_
        refine WH.nil rfl ?_
        refine QT.n ?_
        refine WC.seq ?_
        obtain ⟨g5_13_1, H⟩ := of_need H
        refine WC.heldF [(1, .d (.int .i64 a1)), (7, .own 0), (8, .rel 0 ((IntKind.i64.wrap ((((([] : List T_api_Frame) ++ a0).map enc_api_Frame).length : Int) - 1)).toNat * 27)), (9, .own 136)] [(0, .row 45 27 ((x2.set (IntKind.i64.wrap ((((([] : List T_api_Frame) ++ a0).map enc_api_Frame).length : Int) - 1)).toNat (⟨(x2.getD (IntKind.i64.wrap ((((([] : List T_api_Frame) ++ a0).map enc_api_Frame).length : Int) - 1)).toNat default).Fn, (x2.getD (IntKind.i64.wrap ((((([] : List T_api_Frame) ++ a0).map enc_api_Frame).length : Int) - 1)).toNat default).Pc, (x2.getD (IntKind.i64.wrap ((((([] : List T_api_Frame) ++ a0).map enc_api_Frame).length : Int) - 1)).toNat default).N, ((x2.getD (IntKind.i64.wrap ((((([] : List T_api_Frame) ++ a0).map enc_api_Frame).length : Int) - 1)).toNat default).L), (afill 16 ((x2.getD (IntKind.i64.wrap ((((([] : List T_api_Frame) ++ a0).map enc_api_Frame).length : Int) - 1)).toNat default).S) (IntKind.i64.wrap (((x2.getD (IntKind.i64.wrap ((((([] : List T_api_Frame) ++ a0).map enc_api_Frame).length : Int) - 1)).toNat default).N) - a1)) ((x2.getD (IntKind.i64.wrap ((((([] : List T_api_Frame) ++ a0).map enc_api_Frame).length : Int) - 1)).toNat default).N) 0)⟩ : T_api_Frame)).map enc_api_Frame)), (136, .row 3 1 ((([] : List Int) ++ asub ((x2.getD (IntKind.i64.wrap ((((([] : List T_api_Frame) ++ a0).map enc_api_Frame).length : Int) - 1)).toNat default).S) (IntKind.i64.wrap (((x2.getD (IntKind.i64.wrap ((((([] : List T_api_Frame) ++ a0).map enc_api_Frame).length : Int) - 1)).toNat default).N) - a1)) ((x2.getD (IntKind.i64.wrap ((((([] : List T_api_Frame) ++ a0).map enc_api_Frame).length : Int) - 1)).toNat default).N)).map enc_i64))] (.one 0 true (.one 1 true (.one 2 true (.one 3 true (.one 4 true (.one 5 true (.one 7 true (.one 9 true (.one 10 true (.one 11 true (.fork (.one 6 false (.one 8 true (.one 12 false (.one 13 true (.one 14 false .done))))) (.one 12 false (.one 6 false (.one 8 true (.one 13 true (.one 14 false .done)))))))))))))))) [0, 1000000] [] rfl (by kernel_rfl) rfl (by kernel_rfl) rfl rfl (fun _ h => h) rfl rfl rfl (fun FK NK wK K => ?_) ?_
        · refine WH.run 2 tt_ok rfl rfl rfl rfl trivial ?_
          refine WH.yv rfl (LJ.Y.fieldRel (fo := 11) rfl rfl (by kernel_rfl)) rfl rfl rfl ?_
          refine WH.run 2 tt_ok rfl rfl rfl rfl trivial ?_
          refine WH.yv rfl (LJ.Y.fieldRel (fo := 2) rfl rfl (by kernel_rfl)) rfl rfl rfl ?_
          refine WH.run 3 tt_ok rfl rfl rfl rfl trivial ?_
          refine WH.yv rfl (LJ.Y.fieldRel (fo := 2) rfl rfl (by kernel_rfl)) rfl rfl rfl ?_
          refine WH.fork ?_ ?_
          · refine WH.yvs rfl (LJ.Y.loadRel enc_api_Frame x2 (IntKind.i64.wrap ((((([] : List T_api_Frame) ++ a0).map enc_api_Frame).length : Int) - 1)) 2 rfl rfl (fun _ => rfl) rfl (by kernel_rfl) rfl (by first | exact nIn_ok g3 | (have := nIn_ok g3; simpa only [List.length_set, List.length_map] using this))) rfl rfl rfl rfl rfl ?_
            refine WH.run 1 tt_ok rfl rfl rfl rfl trivial ?_
            refine WH.yvs rfl (LJ.Y.loadRel enc_api_Frame x2 (IntKind.i64.wrap ((((([] : List T_api_Frame) ++ a0).map enc_api_Frame).length : Int) - 1)) 2 rfl rfl (fun _ => rfl) rfl (by kernel_rfl) rfl (by first | exact nIn_ok g3 | (have := nIn_ok g3; simpa only [List.length_set, List.length_map] using this))) rfl rfl rfl rfl rfl ?_
            refine WH.yv rfl (LJ.Y.sliceRsl 16 (IntKind.i64.wrap (((x2.getD (IntKind.i64.wrap ((((([] : List T_api_Frame) ++ a0).map enc_api_Frame).length : Int) - 1)).toNat default).N) - a1)) ((x2.getD (IntKind.i64.wrap ((((([] : List T_api_Frame) ++ a0).map enc_api_Frame).length : Int) - 1)).toNat default).N) (by kernel_rfl) rfl rfl ⟨_, rfl⟩ ⟨_, rfl⟩ (nSl_ok g5_13_1)) rfl rfl rfl ?_
            refine WH.step rfl (WO.clrRsl enc_api_Frame x2 16 11 ((x2.getD (IntKind.i64.wrap ((((([] : List T_api_Frame) ++ a0).map enc_api_Frame).length : Int) - 1)).toNat default).S) (⟨(x2.getD (IntKind.i64.wrap ((((([] : List T_api_Frame) ++ a0).map enc_api_Frame).length : Int) - 1)).toNat default).Fn, (x2.getD (IntKind.i64.wrap ((((([] : List T_api_Frame) ++ a0).map enc_api_Frame).length : Int) - 1)).toNat default).Pc, (x2.getD (IntKind.i64.wrap ((((([] : List T_api_Frame) ++ a0).map enc_api_Frame).length : Int) - 1)).toNat default).N, ((x2.getD (IntKind.i64.wrap ((((([] : List T_api_Frame) ++ a0).map enc_api_Frame).length : Int) - 1)).toNat default).L), (afill 16 ((x2.getD (IntKind.i64.wrap ((((([] : List T_api_Frame) ++ a0).map enc_api_Frame).length : Int) - 1)).toNat default).S) (IntKind.i64.wrap (((x2.getD (IntKind.i64.wrap ((((([] : List T_api_Frame) ++ a0).map enc_api_Frame).length : Int) - 1)).toNat default).N) - a1)) ((x2.getD (IntKind.i64.wrap ((((([] : List T_api_Frame) ++ a0).map enc_api_Frame).length : Int) - 1)).toNat default).N) 0)⟩ : T_api_Frame) (IntKind.i64.wrap ((((([] : List T_api_Frame) ++ a0).map enc_api_Frame).length : Int) - 1)) (IntKind.i64.wrap (((x2.getD (IntKind.i64.wrap ((((([] : List T_api_Frame) ++ a0).map enc_api_Frame).length : Int) - 1)).toNat default).N) - a1)) ((x2.getD (IntKind.i64.wrap ((((([] : List T_api_Frame) ++ a0).map enc_api_Frame).length : Int) - 1)).toNat default).N) tt_ok rfl (by kernel_rfl) rfl rfl (fun _ => rfl) rfl rfl rfl rfl (nSl_ok g5_13_1) (by first | exact nIn_ok g3 | (have := nIn_ok g3; simpa only [List.length_set, List.length_map] using this)) rfl rfl rfl) rfl rfl rfl ?_
            exact WH.nilF rfl (LessW.mk' ⟨AVle.of rfl, AVle.of rfl, AVle.of rfl, AVle.of rfl, trivial⟩ ⟨rfl, rfl, trivial⟩)
          · refine WH.yvs rfl (LJ.Y.loadRel enc_api_Frame x2 (IntKind.i64.wrap ((((([] : List T_api_Frame) ++ a0).map enc_api_Frame).length : Int) - 1)) 2 rfl rfl (fun _ => rfl) rfl (by kernel_rfl) rfl (by first | exact nIn_ok g3 | (have := nIn_ok g3; simpa only [List.length_set, List.length_map] using this))) rfl rfl rfl rfl rfl ?_
            refine WH.yvs rfl (LJ.Y.loadRel enc_api_Frame x2 (IntKind.i64.wrap ((((([] : List T_api_Frame) ++ a0).map enc_api_Frame).length : Int) - 1)) 2 rfl rfl (fun _ => rfl) rfl (by kernel_rfl) rfl (by first | exact nIn_ok g3 | (have := nIn_ok g3; simpa only [List.length_set, List.length_map] using this))) rfl rfl rfl rfl rfl ?_
            refine WH.run 1 tt_ok rfl rfl rfl rfl trivial ?_
            refine WH.yv rfl (LJ.Y.sliceRsl 16 (IntKind.i64.wrap (((x2.getD (IntKind.i64.wrap ((((([] : List T_api_Frame) ++ a0).map enc_api_Frame).length : Int) - 1)).toNat default).N) - a1)) ((x2.getD (IntKind.i64.wrap ((((([] : List T_api_Frame) ++ a0).map enc_api_Frame).length : Int) - 1)).toNat default).N) (by kernel_rfl) rfl rfl ⟨_, rfl⟩ ⟨_, rfl⟩ (nSl_ok g5_13_1)) rfl rfl rfl ?_
            refine WH.step rfl (WO.clrRsl enc_api_Frame x2 16 11 ((x2.getD (IntKind.i64.wrap ((((([] : List T_api_Frame) ++ a0).map enc_api_Frame).length : Int) - 1)).toNat default).S) (⟨(x2.getD (IntKind.i64.wrap ((((([] : List T_api_Frame) ++ a0).map enc_api_Frame).length : Int) - 1)).toNat default).Fn, (x2.getD (IntKind.i64.wrap ((((([] : List T_api_Frame) ++ a0).map enc_api_Frame).length : Int) - 1)).toNat default).Pc, (x2.getD (IntKind.i64.wrap ((((([] : List T_api_Frame) ++ a0).map enc_api_Frame).length : Int) - 1)).toNat default).N, ((x2.getD (IntKind.i64.wrap ((((([] : List T_api_Frame) ++ a0).map enc_api_Frame).length : Int) - 1)).toNat default).L), (afill 16 ((x2.getD (IntKind.i64.wrap ((((([] : List T_api_Frame) ++ a0).map enc_api_Frame).length : Int) - 1)).toNat default).S) (IntKind.i64.wrap (((x2.getD (IntKind.i64.wrap ((((([] : List T_api_Frame) ++ a0).map enc_api_Frame).length : Int) - 1)).toNat default).N) - a1)) ((x2.getD (IntKind.i64.wrap ((((([] : List T_api_Frame) ++ a0).map enc_api_Frame).length : Int) - 1)).toNat default).N) 0)⟩ : T_api_Frame) (IntKind.i64.wrap ((((([] : List T_api_Frame) ++ a0).map enc_api_Frame).length : Int) - 1)) (IntKind.i64.wrap (((x2.getD (IntKind.i64.wrap ((((([] : List T_api_Frame) ++ a0).map enc_api_Frame).length : Int) - 1)).toNat default).N) - a1)) ((x2.getD (IntKind.i64.wrap ((((([] : List T_api_Frame) ++ a0).map enc_api_Frame).length : Int) - 1)).toNat default).N) tt_ok rfl (by kernel_rfl) rfl rfl (fun _ => rfl) rfl rfl rfl rfl (nSl_ok g5_13_1) (by first | exact nIn_ok g3 | (have := nIn_ok g3; simpa only [List.length_set, List.length_map] using this)) rfl rfl rfl) rfl rfl rfl ?_
            exact WH.nilF rfl (LessW.mk' ⟨AVle.of rfl, AVle.of rfl, AVle.of rfl, AVle.of rfl, trivial⟩ ⟨rfl, rfl, trivial⟩)
        · refine QT.n ?_
          refine WC.seq ?_
          refine WC.region ?_
          refine WL.run 2 tt_ok sg0 rfl rfl trivial ?_
          refine WL.yv (LJ.Y.fieldRel (fo := 2) rfl rfl (by kernel_rfl)) rfl rfl rfl ?_
          refine WL.yv (LJ.Y.loadRel enc_api_Frame (x2.set (IntKind.i64.wrap ((((([] : List T_api_Frame) ++ a0).map enc_api_Frame).length : Int) - 1)).toNat (⟨(x2.getD (IntKind.i64.wrap ((((([] : List T_api_Frame) ++ a0).map enc_api_Frame).length : Int) - 1)).toNat default).Fn, (x2.getD (IntKind.i64.wrap ((((([] : List T_api_Frame) ++ a0).map enc_api_Frame).length : Int) - 1)).toNat default).Pc, (x2.getD (IntKind.i64.wrap ((((([] : List T_api_Frame) ++ a0).map enc_api_Frame).length : Int) - 1)).toNat default).N, ((x2.getD (IntKind.i64.wrap ((((([] : List T_api_Frame) ++ a0).map enc_api_Frame).length : Int) - 1)).toNat default).L), (afill 16 ((x2.getD (IntKind.i64.wrap ((((([] : List T_api_Frame) ++ a0).map enc_api_Frame).length : Int) - 1)).toNat default).S) (IntKind.i64.wrap (((x2.getD (IntKind.i64.wrap ((((([] : List T_api_Frame) ++ a0).map enc_api_Frame).length : Int) - 1)).toNat default).N) - a1)) ((x2.getD (IntKind.i64.wrap ((((([] : List T_api_Frame) ++ a0).map enc_api_Frame).length : Int) - 1)).toNat default).N) 0)⟩ : T_api_Frame)) (IntKind.i64.wrap ((((([] : List T_api_Frame) ++ a0).map enc_api_Frame).length : Int) - 1)) 2 rfl rfl (fun _ => rfl) rfl (by kernel_rfl) rfl (by first | exact nIn_ok g3 | (have := nIn_ok g3; simpa only [List.length_set, List.length_map] using this))) rfl rfl rfl ?_
          refine WL.run 3 tt_ok sg0 rfl rfl trivial ?_
          refine WL.yv (LJ.Y.fieldRel (fo := 2) rfl rfl (by kernel_rfl)) rfl rfl rfl ?_
          refine WL.storeRel enc_api_Frame (x2.set (IntKind.i64.wrap ((((([] : List T_api_Frame) ++ a0).map enc_api_Frame).length : Int) - 1)).toNat (⟨(x2.getD (IntKind.i64.wrap ((((([] : List T_api_Frame) ++ a0).map enc_api_Frame).length : Int) - 1)).toNat default).Fn, (x2.getD (IntKind.i64.wrap ((((([] : List T_api_Frame) ++ a0).map enc_api_Frame).length : Int) - 1)).toNat default).Pc, (x2.getD (IntKind.i64.wrap ((((([] : List T_api_Frame) ++ a0).map enc_api_Frame).length : Int) - 1)).toNat default).N, ((x2.getD (IntKind.i64.wrap ((((([] : List T_api_Frame) ++ a0).map enc_api_Frame).length : Int) - 1)).toNat default).L), (afill 16 ((x2.getD (IntKind.i64.wrap ((((([] : List T_api_Frame) ++ a0).map enc_api_Frame).length : Int) - 1)).toNat default).S) (IntKind.i64.wrap (((x2.getD (IntKind.i64.wrap ((((([] : List T_api_Frame) ++ a0).map enc_api_Frame).length : Int) - 1)).toNat default).N) - a1)) ((x2.getD (IntKind.i64.wrap ((((([] : List T_api_Frame) ++ a0).map enc_api_Frame).length : Int) - 1)).toNat default).N) 0)⟩ : T_api_Frame)) (IntKind.i64.wrap ((((([] : List T_api_Frame) ++ a0).map enc_api_Frame).length : Int) - 1)) 2 (⟨((x2.set (IntKind.i64.wrap ((((([] : List T_api_Frame) ++ a0).map enc_api_Frame).length : Int) - 1)).toNat (⟨(x2.getD (IntKind.i64.wrap ((((([] : List T_api_Frame) ++ a0).map enc_api_Frame).length : Int) - 1)).toNat default).Fn, (x2.getD (IntKind.i64.wrap ((((([] : List T_api_Frame) ++ a0).map enc_api_Frame).length : Int) - 1)).toNat default).Pc, (x2.getD (IntKind.i64.wrap ((((([] : List T_api_Frame) ++ a0).map enc_api_Frame).length : Int) - 1)).toNat default).N, ((x2.getD (IntKind.i64.wrap ((((([] : List T_api_Frame) ++ a0).map enc_api_Frame).length : Int) - 1)).toNat default).L), (afill 16 ((x2.getD (IntKind.i64.wrap ((((([] : List T_api_Frame) ++ a0).map enc_api_Frame).length : Int) - 1)).toNat default).S) (IntKind.i64.wrap (((x2.getD (IntKind.i64.wrap ((((([] : List T_api_Frame) ++ a0).map enc_api_Frame).length : Int) - 1)).toNat default).N) - a1)) ((x2.getD (IntKind.i64.wrap ((((([] : List T_api_Frame) ++ a0).map enc_api_Frame).length : Int) - 1)).toNat default).N) 0)⟩ : T_api_Frame)).getD (IntKind.i64.wrap ((((([] : List T_api_Frame) ++ a0).map enc_api_Frame).length : Int) - 1)).toNat default).Fn, ((x2.set (IntKind.i64.wrap ((((([] : List T_api_Frame) ++ a0).map enc_api_Frame).length : Int) - 1)).toNat (⟨(x2.getD (IntKind.i64.wrap ((((([] : List T_api_Frame) ++ a0).map enc_api_Frame).length : Int) - 1)).toNat default).Fn, (x2.getD (IntKind.i64.wrap ((((([] : List T_api_Frame) ++ a0).map enc_api_Frame).length : Int) - 1)).toNat default).Pc, (x2.getD (IntKind.i64.wrap ((((([] : List T_api_Frame) ++ a0).map enc_api_Frame).length : Int) - 1)).toNat default).N, ((x2.getD (IntKind.i64.wrap ((((([] : List T_api_Frame) ++ a0).map enc_api_Frame).length : Int) - 1)).toNat default).L), (afill 16 ((x2.getD (IntKind.i64.wrap ((((([] : List T_api_Frame) ++ a0).map enc_api_Frame).length : Int) - 1)).toNat default).S) (IntKind.i64.wrap (((x2.getD (IntKind.i64.wrap ((((([] : List T_api_Frame) ++ a0).map enc_api_Frame).length : Int) - 1)).toNat default).N) - a1)) ((x2.getD (IntKind.i64.wrap ((((([] : List T_api_Frame) ++ a0).map enc_api_Frame).length : Int) - 1)).toNat default).N) 0)⟩ : T_api_Frame)).getD (IntKind.i64.wrap ((((([] : List T_api_Frame) ++ a0).map enc_api_Frame).length : Int) - 1)).toNat default).Pc, IntKind.i64.wrap ((((x2.set (IntKind.i64.wrap ((((([] : List T_api_Frame) ++ a0).map enc_api_Frame).length : Int) - 1)).toNat (⟨(x2.getD (IntKind.i64.wrap ((((([] : List T_api_Frame) ++ a0).map enc_api_Frame).length : Int) - 1)).toNat default).Fn, (x2.getD (IntKind.i64.wrap ((((([] : List T_api_Frame) ++ a0).map enc_api_Frame).length : Int) - 1)).toNat default).Pc, (x2.getD (IntKind.i64.wrap ((((([] : List T_api_Frame) ++ a0).map enc_api_Frame).length : Int) - 1)).toNat default).N, ((x2.getD (IntKind.i64.wrap ((((([] : List T_api_Frame) ++ a0).map enc_api_Frame).length : Int) - 1)).toNat default).L), (afill 16 ((x2.getD (IntKind.i64.wrap ((((([] : List T_api_Frame) ++ a0).map enc_api_Frame).length : Int) - 1)).toNat default).S) (IntKind.i64.wrap (((x2.getD (IntKind.i64.wrap ((((([] : List T_api_Frame) ++ a0).map enc_api_Frame).length : Int) - 1)).toNat default).N) - a1)) ((x2.getD (IntKind.i64.wrap ((((([] : List T_api_Frame) ++ a0).map enc_api_Frame).length : Int) - 1)).toNat default).N) 0)⟩ : T_api_Frame)).getD (IntKind.i64.wrap ((((([] : List T_api_Frame) ++ a0).map enc_api_Frame).length : Int) - 1)).toNat default).N) - a1), (((x2.set (IntKind.i64.wrap ((((([] : List T_api_Frame) ++ a0).map enc_api_Frame).length : Int) - 1)).toNat (⟨(x2.getD (IntKind.i64.wrap ((((([] : List T_api_Frame) ++ a0).map enc_api_Frame).length : Int) - 1)).toNat default).Fn, (x2.getD (IntKind.i64.wrap ((((([] : List T_api_Frame) ++ a0).map enc_api_Frame).length : Int) - 1)).toNat default).Pc, (x2.getD (IntKind.i64.wrap ((((([] : List T_api_Frame) ++ a0).map enc_api_Frame).length : Int) - 1)).toNat default).N, ((x2.getD (IntKind.i64.wrap ((((([] : List T_api_Frame) ++ a0).map enc_api_Frame).length : Int) - 1)).toNat default).L), (afill 16 ((x2.getD (IntKind.i64.wrap ((((([] : List T_api_Frame) ++ a0).map enc_api_Frame).length : Int) - 1)).toNat default).S) (IntKind.i64.wrap (((x2.getD (IntKind.i64.wrap ((((([] : List T_api_Frame) ++ a0).map enc_api_Frame).length : Int) - 1)).toNat default).N) - a1)) ((x2.getD (IntKind.i64.wrap ((((([] : List T_api_Frame) ++ a0).map enc_api_Frame).length : Int) - 1)).toNat default).N) 0)⟩ : T_api_Frame)).getD (IntKind.i64.wrap ((((([] : List T_api_Frame) ++ a0).map enc_api_Frame).length : Int) - 1)).toNat default).L), (((x2.set (IntKind.i64.wrap ((((([] : List T_api_Frame) ++ a0).map enc_api_Frame).length : Int) - 1)).toNat (⟨(x2.getD (IntKind.i64.wrap ((((([] : List T_api_Frame) ++ a0).map enc_api_Frame).length : Int) - 1)).toNat default).Fn, (x2.getD (IntKind.i64.wrap ((((([] : List T_api_Frame) ++ a0).map enc_api_Frame).length : Int) - 1)).toNat default).Pc, (x2.getD (IntKind.i64.wrap ((((([] : List T_api_Frame) ++ a0).map enc_api_Frame).length : Int) - 1)).toNat default).N, ((x2.getD (IntKind.i64.wrap ((((([] : List T_api_Frame) ++ a0).map enc_api_Frame).length : Int) - 1)).toNat default).L), (afill 16 ((x2.getD (IntKind.i64.wrap ((((([] : List T_api_Frame) ++ a0).map enc_api_Frame).length : Int) - 1)).toNat default).S) (IntKind.i64.wrap (((x2.getD (IntKind.i64.wrap ((((([] : List T_api_Frame) ++ a0).map enc_api_Frame).length : Int) - 1)).toNat default).N) - a1)) ((x2.getD (IntKind.i64.wrap ((((([] : List T_api_Frame) ++ a0).map enc_api_Frame).length : Int) - 1)).toNat default).N) 0)⟩ : T_api_Frame)).getD (IntKind.i64.wrap ((((([] : List T_api_Frame) ++ a0).map enc_api_Frame).length : Int) - 1)).toNat default).S)⟩ : T_api_Frame) (.int .i64 (IntKind.i64.wrap ((((x2.set (IntKind.i64.wrap ((((([] : List T_api_Frame) ++ a0).map enc_api_Frame).length : Int) - 1)).toNat (⟨(x2.getD (IntKind.i64.wrap ((((([] : List T_api_Frame) ++ a0).map enc_api_Frame).length : Int) - 1)).toNat default).Fn, (x2.getD (IntKind.i64.wrap ((((([] : List T_api_Frame) ++ a0).map enc_api_Frame).length : Int) - 1)).toNat default).Pc, (x2.getD (IntKind.i64.wrap ((((([] : List T_api_Frame) ++ a0).map enc_api_Frame).length : Int) - 1)).toNat default).N, ((x2.getD (IntKind.i64.wrap ((((([] : List T_api_Frame) ++ a0).map enc_api_Frame).length : Int) - 1)).toNat default).L), (afill 16 ((x2.getD (IntKind.i64.wrap ((((([] : List T_api_Frame) ++ a0).map enc_api_Frame).length : Int) - 1)).toNat default).S) (IntKind.i64.wrap (((x2.getD (IntKind.i64.wrap ((((([] : List T_api_Frame) ++ a0).map enc_api_Frame).length : Int) - 1)).toNat default).N) - a1)) ((x2.getD (IntKind.i64.wrap ((((([] : List T_api_Frame) ++ a0).map enc_api_Frame).length : Int) - 1)).toNat default).N) 0)⟩ : T_api_Frame)).getD (IntKind.i64.wrap ((((([] : List T_api_Frame) ++ a0).map enc_api_Frame).length : Int) - 1)).toNat default).N) - a1))) rfl rfl rfl rfl (fun _ => rfl) rfl (by kernel_rfl) rfl rfl (by first | exact nIn_ok g3 | (have := nIn_ok g3; simpa only [List.length_set, List.length_map] using this)) rfl rfl rfl rfl ?_
          refine WL.nil ?_
          refine QT.n ?_
          refine WC.seq ?_
          refine WC.region ?_
          refine WL.run 5 tt_ok sg0 rfl rfl trivial ?_
          refine WL.nil ?_
          refine QT.n ?_
          refine WC.freezeT 136 enc_i64 (([] : List Int) ++ asub ((x2.getD (IntKind.i64.wrap ((((([] : List T_api_Frame) ++ a0).map enc_api_Frame).length : Int) - 1)).toNat default).S) (IntKind.i64.wrap (((x2.getD (IntKind.i64.wrap ((((([] : List T_api_Frame) ++ a0).map enc_api_Frame).length : Int) - 1)).toNat default).N) - a1)) ((x2.getD (IntKind.i64.wrap ((((([] : List T_api_Frame) ++ a0).map enc_api_Frame).length : Int) - 1)).toNat default).N)) rfl rfl rfl rfl ?_
          refine WC.ret ?_
          cases H
          exact Ends.auto rfl rfl rfl ⟨rfl, trivial⟩
  · replace H := of_t H h1
    obtain ⟨x9, hx9, H⟩ := of_bind H
    refine WL.call [] (frame_last_n_0 _ h1 hx9) frame_last_n_f rfl rfl trivial rfl rfl rfl ?_
    refine WL.run 5 tt_ok sg0 rfl rfl trivial ?_
    refine WL.nil ?_
    refine QT.n ?_
    refine WC.seq ?_
    refine WC.seq ?_
    refine WC.region ?_
    refine WL.run 3 tt_ok sg0 rfl rfl trivial ?_
    refine WL.gskips 2 2 false 17 rfl rfl rfl rfl ?_
    refine WL.pickT rfl rfl rfl rfl rfl rfl ?_
    refine WL.run 1 tt_ok sg0 rfl rfl trivial ?_
    refine WL.gskips 6 6 false 21 rfl rfl rfl rfl ?_
    refine WL.pickT rfl rfl rfl rfl rfl rfl ?_
    refine WL.run 1 tt_ok sg0 rfl rfl trivial ?_
    refine WL.gskips 5 14 false 29 rfl rfl rfl rfl ?_
    refine WL.pickT rfl rfl rfl rfl rfl rfl ?_
    refine WL.nil ?_
    refine QT.n ?_
    refine WC.cond rfl (fun h => ?_) (fun h => absurd h (by decide))
    refine WC.seq ?_
    refine WC.region ?_
    refine WL.run 3 tt_ok sg0 rfl rfl trivial ?_
    refine WL.nil ?_
    refine QT.n ?_
    refine WC.nilrow (t := 4) 0 45 27 rfl rfl rfl ?_
    refine WC.row 0 (([] : List T_api_Frame).map enc_api_Frame) rfl rfl rfl ?_
    refine WC.nilT 5 enc_i64 rfl ?_
    refine WC.ret ?_
    refine QT.r ?_
    cases H
    exact Ends.auto rfl rfl rfl ⟨rfl, trivial⟩
theorem frame_Pop_s (n0 : Nat) (hn : nodupB [n0] = true) (a0 : List T_api_Frame) (a1 : Int) {r : (List T_api_Frame) × (List Int) × Bool} (H : frame_Pop a0 a1 = some r) : LJ.Spec Try.prog 7 [.d (slT enc_api_Frame a0), .d (.int .i64 a1)] [] (.tup [.own n0, .d (slT enc_i64 r.2.1), .d (.bool r.2.2)]) [(n0, .row 45 27 (r.1.map enc_api_Frame))] :=
  Spec.names [n0] hn rfl rfl (frame_Pop_0 a0 a1 H)
theorem frame_Pop_f : hasFunc Try.prog 7 Try.f7 := ⟨Try.func7, rfl, by kernel_rfl⟩

/-! ### logjam/frame.Turn -/
theorem frame_Turn_0 (a0 : List T_api_Frame) (a1 : Int) {r : List T_api_Frame} (H : frame_Turn a0 a1 = some r) : LJ.Spec Try.prog 8 [.d (slT enc_api_Frame a0), .d (.int .i64 a1)] [] (.d (slT enc_api_Frame r)) [] := by
  refine LJ.Spec.code Try.func8 rfl 40 rfl rfl [] rfl fun w0 F0 S0 B0 => ?_
  unfold frame_Turn at H
  refine WC.seq ?_
  refine WC.region ?_
  refine WL.run 1 tt_ok sg0 rfl rfl trivial ?_
  refine WL.nil ?_
  refine QT.n ?_
  refine WC.seq ?_
  refine WC.region ?_
  refine WL.run 1 tt_ok sg0 rfl rfl trivial ?_
  cases h1 : iEq (a0.length : Int) 0
  · replace H := of_f H h1
    obtain ⟨x2, hx2, H⟩ := of_bind H
    refine WL.call [2090] (frame_last_o_s 2090 rfl _ h1 hx2) frame_last_o_f rfl rfl trivial rfl rfl rfl ?_
    obtain ⟨g3, H⟩ := of_need H
    refine WL.run 5 tt_ok sg0 rfl rfl trivial ?_
    refine WL.nil ?_
    refine QT.n ?_
    refine WC.seq ?_
    refine WC.seq ?_
    refine WC.region ?_
    refine WL.run 1 tt_ok sg0 rfl rfl trivial ?_
    refine WL.yv (LJ.Y.rne rfl rfl rfl (by kernel_rfl)) rfl rfl rfl ?_
    refine WL.run 1 tt_ok sg0 rfl rfl trivial ?_
    refine WL.grun 2 2 true 14 tt_ok sg0 rfl rfl rfl rfl trivial ?_
    refine WL.gyv (LJ.Y.fieldRel (fo := 2) rfl rfl (by kernel_rfl)) rfl rfl rfl rfl rfl rfl ?_
    refine WL.gyv (LJ.Y.loadRel enc_api_Frame x2 (IntKind.i64.wrap ((((([] : List T_api_Frame) ++ a0).map enc_api_Frame).length : Int) - 1)) 2 rfl rfl (fun _ => rfl) rfl (by kernel_rfl) rfl (by first | exact nIn_ok g3 | (have := nIn_ok g3; simpa only [List.length_set, List.length_map] using this))) rfl rfl rfl rfl rfl rfl ?_
    refine WL.grun 1 2 true 14 tt_ok sg0 rfl rfl rfl rfl trivial ?_
    refine WL.pickT rfl rfl rfl rfl rfl rfl ?_
    refine WL.run 1 tt_ok sg0 rfl rfl trivial ?_
    refine WL.split (g := 21) rfl (fun h4 => ?_) (fun h4 => ?_)
    · replace H := of_t H h4
      refine WL.grun 2 9 true 21 tt_ok sg0 rfl rfl rfl rfl trivial ?_
      refine WL.gyv (LJ.Y.fieldRel (fo := 2) rfl rfl (by kernel_rfl)) rfl rfl rfl rfl rfl rfl ?_
      refine WL.gyv (LJ.Y.loadRel enc_api_Frame x2 (IntKind.i64.wrap ((((([] : List T_api_Frame) ++ a0).map enc_api_Frame).length : Int) - 1)) 2 rfl rfl (fun _ => rfl) rfl (by kernel_rfl) rfl (by first | exact nIn_ok g3 | (have := nIn_ok g3; simpa only [List.length_set, List.length_map] using this))) rfl rfl rfl rfl rfl rfl ?_
      refine WL.grun 1 9 true 21 tt_ok sg0 rfl rfl rfl rfl trivial ?_
      refine WL.pickT rfl rfl rfl rfl rfl rfl ?_
      refine WL.nil ?_
      refine QT.n ?_
      refine WC.cond rfl (fun h5 => ?_) (fun h5 => ?_)
      · replace H := of_t H h5
        obtain ⟨x3_7_1, hx3_7_1, H⟩ := of_bind H
        obtain ⟨g3_10_1, H⟩ := of_need H
        refine WC.heldF [(5, .own 2090)] [(2090, .row 45 27 ((x2.set (IntKind.i64.wrap ((((([] : List T_api_Frame) ++ a0).map enc_api_Frame).length : Int) - 1)).toNat (⟨(x2.getD (IntKind.i64.wrap ((((([] : List T_api_Frame) ++ a0).map enc_api_Frame).length : Int) - 1)).toNat default).Fn, (x2.getD (IntKind.i64.wrap ((((([] : List T_api_Frame) ++ a0).map enc_api_Frame).length : Int) - 1)).toNat default).Pc, (x2.getD (IntKind.i64.wrap ((((([] : List T_api_Frame) ++ a0).map enc_api_Frame).length : Int) - 1)).toNat default).N, ((x2.getD (IntKind.i64.wrap ((((([] : List T_api_Frame) ++ a0).map enc_api_Frame).length : Int) - 1)).toNat default).L), (aset 16 ((x2.getD (IntKind.i64.wrap ((((([] : List T_api_Frame) ++ a0).map enc_api_Frame).length : Int) - 1)).toNat default).S) (IntKind.i64.wrap (((x2.getD (IntKind.i64.wrap ((((([] : List T_api_Frame) ++ a0).map enc_api_Frame).length : Int) - 1)).toNat default).N) - 1)).toNat x3_7_1)⟩ : T_api_Frame)).map enc_api_Frame))] (.one 0 true (.one 1 true (.one 2 true (.one 3 true (.one 6 true (.one 8 true (.one 9 true (.fork (.one 4 false (.one 5 true (.one 7 false (.one 10 true (.one 11 false .done))))) (.one 7 false (.one 4 false (.one 5 true (.one 10 true (.one 11 false .done))))))))))))) [2090, 1002090] [] rfl (by kernel_rfl) rfl (by kernel_rfl) rfl rfl (fun _ h => h) rfl rfl rfl (fun FK NK wK K => ?_) ?_
        · refine WH.run 3 tt_ok rfl rfl rfl rfl trivial ?_
          refine WH.yv rfl (LJ.Y.fieldRel (fo := 2) rfl rfl (by kernel_rfl)) rfl rfl rfl ?_
          refine WH.run 2 tt_ok rfl rfl rfl rfl trivial ?_
          refine WH.yv rfl (LJ.Y.fieldRel (fo := 11) rfl rfl (by kernel_rfl)) rfl rfl rfl ?_
          refine WH.fork ?_ ?_
          · refine WH.yvs rfl (LJ.Y.loadRel enc_api_Frame x2 (IntKind.i64.wrap ((((([] : List T_api_Frame) ++ a0).map enc_api_Frame).length : Int) - 1)) 2 rfl rfl (fun _ => rfl) rfl (by kernel_rfl) rfl (by first | exact nIn_ok g3 | (have := nIn_ok g3; simpa only [List.length_set, List.length_map] using this))) rfl rfl rfl rfl rfl ?_
            refine WH.run 1 tt_ok rfl rfl rfl rfl trivial ?_
            refine WH.call [] rfl (word_Low_0 _ hx3_7_1) word_Low_f rfl rfl trivial rfl rfl rfl rfl rfl ?_
            refine WH.yv rfl (LJ.Y.idxRelA 16 (IntKind.i64.wrap (((x2.getD (IntKind.i64.wrap ((((([] : List T_api_Frame) ++ a0).map enc_api_Frame).length : Int) - 1)).toNat default).N) - 1)) (by kernel_rfl) rfl rfl rfl (nIn_ok g3_10_1)) rfl rfl rfl ?_
            refine WH.step rfl (WO.storeRelA enc_api_Frame x2 16 11 (fun x : Int => DV.int .i64 x) ((x2.getD (IntKind.i64.wrap ((((([] : List T_api_Frame) ++ a0).map enc_api_Frame).length : Int) - 1)).toNat default).S) x3_7_1 (⟨(x2.getD (IntKind.i64.wrap ((((([] : List T_api_Frame) ++ a0).map enc_api_Frame).length : Int) - 1)).toNat default).Fn, (x2.getD (IntKind.i64.wrap ((((([] : List T_api_Frame) ++ a0).map enc_api_Frame).length : Int) - 1)).toNat default).Pc, (x2.getD (IntKind.i64.wrap ((((([] : List T_api_Frame) ++ a0).map enc_api_Frame).length : Int) - 1)).toNat default).N, ((x2.getD (IntKind.i64.wrap ((((([] : List T_api_Frame) ++ a0).map enc_api_Frame).length : Int) - 1)).toNat default).L), (aset 16 ((x2.getD (IntKind.i64.wrap ((((([] : List T_api_Frame) ++ a0).map enc_api_Frame).length : Int) - 1)).toNat default).S) (IntKind.i64.wrap (((x2.getD (IntKind.i64.wrap ((((([] : List T_api_Frame) ++ a0).map enc_api_Frame).length : Int) - 1)).toNat default).N) - 1)).toNat x3_7_1)⟩ : T_api_Frame) (IntKind.i64.wrap ((((([] : List T_api_Frame) ++ a0).map enc_api_Frame).length : Int) - 1)) (IntKind.i64.wrap (((x2.getD (IntKind.i64.wrap ((((([] : List T_api_Frame) ++ a0).map enc_api_Frame).length : Int) - 1)).toNat default).N) - 1)) rfl rfl rfl rfl (fun _ => rfl) rfl (by kernel_rfl) rfl rfl rfl (nIn_ok g3_10_1) (by first | exact nIn_ok g3 | (have := nIn_ok g3; simpa only [List.length_set, List.length_map] using this)) rfl rfl rfl) rfl rfl rfl ?_
            exact WH.nilF rfl (LessW.mk' ⟨AVle.of rfl, trivial⟩ ⟨rfl, trivial⟩)
          · refine WH.call [] rfl (word_Low_0 _ hx3_7_1) word_Low_f rfl rfl trivial rfl rfl rfl rfl rfl ?_
            refine WH.yvs rfl (LJ.Y.loadRel enc_api_Frame x2 (IntKind.i64.wrap ((((([] : List T_api_Frame) ++ a0).map enc_api_Frame).length : Int) - 1)) 2 rfl rfl (fun _ => rfl) rfl (by kernel_rfl) rfl (by first | exact nIn_ok g3 | (have := nIn_ok g3; simpa only [List.length_set, List.length_map] using this))) rfl rfl rfl rfl rfl ?_
            refine WH.run 1 tt_ok rfl rfl rfl rfl trivial ?_
            refine WH.yv rfl (LJ.Y.idxRelA 16 (IntKind.i64.wrap (((x2.getD (IntKind.i64.wrap ((((([] : List T_api_Frame) ++ a0).map enc_api_Frame).length : Int) - 1)).toNat default).N) - 1)) (by kernel_rfl) rfl rfl rfl (nIn_ok g3_10_1)) rfl rfl rfl ?_
            refine WH.step rfl (WO.storeRelA enc_api_Frame x2 16 11 (fun x : Int => DV.int .i64 x) ((x2.getD (IntKind.i64.wrap ((((([] : List T_api_Frame) ++ a0).map enc_api_Frame).length : Int) - 1)).toNat default).S) x3_7_1 (⟨(x2.getD (IntKind.i64.wrap ((((([] : List T_api_Frame) ++ a0).map enc_api_Frame).length : Int) - 1)).toNat default).Fn, (x2.getD (IntKind.i64.wrap ((((([] : List T_api_Frame) ++ a0).map enc_api_Frame).length : Int) - 1)).toNat default).Pc, (x2.getD (IntKind.i64.wrap ((((([] : List T_api_Frame) ++ a0).map enc_api_Frame).length : Int) - 1)).toNat default).N, ((x2.getD (IntKind.i64.wrap ((((([] : List T_api_Frame) ++ a0).map enc_api_Frame).length : Int) - 1)).toNat default).L), (aset 16 ((x2.getD (IntKind.i64.wrap ((((([] : List T_api_Frame) ++ a0).map enc_api_Frame).length : Int) - 1)).toNat default).S) (IntKind.i64.wrap (((x2.getD (IntKind.i64.wrap ((((([] : List T_api_Frame) ++ a0).map enc_api_Frame).length : Int) - 1)).toNat default).N) - 1)).toNat x3_7_1)⟩ : T_api_Frame) (IntKind.i64.wrap ((((([] : List T_api_Frame) ++ a0).map enc_api_Frame).length : Int) - 1)) (IntKind.i64.wrap (((x2.getD (IntKind.i64.wrap ((((([] : List T_api_Frame) ++ a0).map enc_api_Frame).length : Int) - 1)).toNat default).N) - 1)) rfl rfl rfl rfl (fun _ => rfl) rfl (by kernel_rfl) rfl rfl rfl (nIn_ok g3_10_1) (by first | exact nIn_ok g3 | (have := nIn_ok g3; simpa only [List.length_set, List.length_map] using this)) rfl rfl rfl) rfl rfl rfl ?_
            exact WH.nilF rfl (LessW.mk' ⟨AVle.of rfl, trivial⟩ ⟨rfl, trivial⟩)
        · refine QT.n ?_
          refine WC.seq ?_
          refine WC.region ?_
          refine WL.run 2 tt_ok sg0 rfl rfl trivial ?_
          refine WL.nil ?_
          refine QT.n ?_
          refine WC.freezeT 2090 enc_api_Frame (x2.set (IntKind.i64.wrap ((((([] : List T_api_Frame) ++ a0).map enc_api_Frame).length : Int) - 1)).toNat (⟨(x2.getD (IntKind.i64.wrap ((((([] : List T_api_Frame) ++ a0).map enc_api_Frame).length : Int) - 1)).toNat default).Fn, (x2.getD (IntKind.i64.wrap ((((([] : List T_api_Frame) ++ a0).map enc_api_Frame).length : Int) - 1)).toNat default).Pc, (x2.getD (IntKind.i64.wrap ((((([] : List T_api_Frame) ++ a0).map enc_api_Frame).length : Int) - 1)).toNat default).N, ((x2.getD (IntKind.i64.wrap ((((([] : List T_api_Frame) ++ a0).map enc_api_Frame).length : Int) - 1)).toNat default).L), (aset 16 ((x2.getD (IntKind.i64.wrap ((((([] : List T_api_Frame) ++ a0).map enc_api_Frame).length : Int) - 1)).toNat default).S) (IntKind.i64.wrap (((x2.getD (IntKind.i64.wrap ((((([] : List T_api_Frame) ++ a0).map enc_api_Frame).length : Int) - 1)).toNat default).N) - 1)).toNat x3_7_1)⟩ : T_api_Frame)) rfl rfl rfl rfl ?_
          refine WC.ret ?_
          cases H
          exact Ends.auto rfl rfl rfl trivial
      replace H := of_f H h5
      refine WC.skip ?_
      refine QT.n ?_
      refine WC.seq ?_
      refine WC.region ?_
      refine WL.run 2 tt_ok sg0 rfl rfl trivial ?_
      refine WL.nil ?_
      refine QT.n ?_
      refine WC.freezeT 2090 enc_api_Frame x2 rfl rfl rfl rfl ?_
      refine WC.ret ?_
      cases H
      exact Ends.auto rfl rfl rfl trivial
    · replace H := of_f H h4
      refine WL.gskips 5 9 true 21 rfl rfl rfl rfl ?_
      refine WL.pickF rfl rfl rfl rfl rfl rfl ?_
      refine WL.nil ?_
      refine QT.n ?_
      refine WC.cond rfl (fun h => absurd h (by decide)) (fun h => ?_)
      refine WC.skip ?_
      refine QT.n ?_
      refine WC.seq ?_
      refine WC.region ?_
      refine WL.run 2 tt_ok sg0 rfl rfl trivial ?_
      refine WL.nil ?_
      refine QT.n ?_
      refine WC.freezeT 2090 enc_api_Frame x2 rfl rfl rfl rfl ?_
      refine WC.ret ?_
      cases H
      exact Ends.auto rfl rfl rfl trivial
  · replace H := of_t H h1
    obtain ⟨x6, hx6, H⟩ := of_bind H
    refine WL.call [] (frame_last_n_0 _ h1 hx6) frame_last_n_f rfl rfl trivial rfl rfl rfl ?_
    refine WL.run 5 tt_ok sg0 rfl rfl trivial ?_
    refine WL.nil ?_
    refine QT.n ?_
    refine WC.seq ?_
    refine WC.seq ?_
    refine WC.region ?_
    refine WL.run 3 tt_ok sg0 rfl rfl trivial ?_
    refine WL.gskips 5 2 true 14 rfl rfl rfl rfl ?_
    refine WL.pickF rfl rfl rfl rfl rfl rfl ?_
    refine WL.run 1 tt_ok sg0 rfl rfl trivial ?_
    refine WL.gskips 5 9 true 21 rfl rfl rfl rfl ?_
    refine WL.pickF rfl rfl rfl rfl rfl rfl ?_
    refine WL.nil ?_
    refine QT.n ?_
    refine WC.cond rfl (fun h => absurd h (by decide)) (fun h => ?_)
    refine WC.skip ?_
    refine QT.n ?_
    refine WC.seq ?_
    refine WC.region ?_
    refine WL.run 2 tt_ok sg0 rfl rfl trivial ?_
    refine WL.nil ?_
    refine QT.n ?_
    refine WC.ret ?_
    cases H
    exact Ends.auto rfl rfl rfl trivial
theorem frame_Turn_f : hasFunc Try.prog 8 Try.f8 := ⟨Try.func8, rfl, by kernel_rfl⟩

/-! ### logjam/frame.Call -/
theorem frame_Call_0 (a0 : List T_api_Frame) (a1 : Int) (a2 : Int) {r : (List T_api_Frame) × Bool} (H : frame_Call a0 a1 a2 = some r) : LJ.Spec Try.prog 9 [.d (slT enc_api_Frame a0), .d (.int .i64 a1), .d (.int .i64 a2)] [] (.tup [.d (slT enc_api_Frame r.1), .d (.bool r.2)]) [] := by
  refine LJ.Spec.code Try.func9 rfl 34 rfl rfl [] rfl fun w0 F0 S0 B0 => ?_
  unfold frame_Call at H
  refine WC.seq ?_
  refine WC.region ?_
  refine WL.run 2 tt_ok sg0 rfl rfl trivial ?_
  refine WL.nil ?_
  refine QT.n ?_
  refine WC.seq ?_
  refine WC.region ?_
  refine WL.run 2 tt_ok sg0 rfl rfl trivial ?_
  obtain ⟨x1, hx1, H⟩ := of_bind H
  refine WL.call [2140] (frame_Pop_s 2140 rfl _ _ hx1) frame_Pop_f rfl rfl trivial rfl rfl rfl ?_
  refine WL.run 7 tt_ok sg0 rfl rfl trivial ?_
  refine WL.nil ?_
  refine QT.n ?_
  refine WC.seq ?_
  refine WC.seq ?_
  refine WC.region ?_
  refine WL.run 3 tt_ok sg0 rfl rfl trivial ?_
  refine WL.sect 2 2 false tt_ok sg0 rfl rfl (fun _ => trivial) ?_
  refine WL.run 2 tt_ok sg0 rfl rfl ⟨by first | exact id | exact fun h => by rw [h]; rfl | simp_all, trivial⟩ ?_
  refine WL.sect 3 6 false tt_ok sg0 rfl rfl (fun _ => trivial) ?_
  refine WL.run 1 tt_ok sg0 rfl rfl ⟨by first | exact id | exact fun h => by rw [h]; rfl | simp_all, trivial⟩ ?_
  refine WL.nil ?_
  refine QT.n ?_
  refine WC.cond rfl (fun h2 => ?_) (fun h2 => ?_)
  · replace H := of_t H h2
    refine WC.seq ?_
    refine WC.region ?_
    refine WL.run 2 tt_ok sg0 rfl rfl trivial ?_
    refine WL.nil ?_
    refine QT.n ?_
    refine WC.nilT 6 enc_api_Frame rfl ?_
    refine WC.ret ?_
    refine QT.r ?_
    cases H
    exact Ends.auto rfl rfl rfl trivial
  replace H := of_f H h2
  refine WC.skip ?_
  refine QT.n ?_
  refine WC.seq ?_
  refine WC.region ?_
  refine WL.run 3 tt_ok sg0 rfl rfl trivial ?_
  obtain ⟨x3, hx3, H⟩ := of_bind H
  refine WL.call [] (frame_New_0 _ _ hx3) frame_New_f rfl rfl trivial rfl rfl rfl ?_
  obtain ⟨g4, H⟩ := of_need H
  refine WL.appT enc_api_Frame x1.1 x3 tt_ok et_ok rfl rfl (fun _ => rfl) (fun _ => rfl) rfl rfl rfl rfl (nCap_ok g4) rfl rfl rfl rfl rfl ?_
  refine WL.run 2 tt_ok sg0 rfl rfl trivial ?_
  refine WL.nil ?_
  refine QT.n ?_
  refine WC.freezeT 2140 enc_api_Frame (x1.1 ++ x3) rfl rfl rfl rfl ?_
  refine WC.ret ?_
  cases H
  exact Ends.auto rfl rfl rfl trivial
theorem frame_Call_f : hasFunc Try.prog 9 Try.f9 := ⟨Try.func9, rfl, by kernel_rfl⟩

/-! ### logjam/frame.Top -/
theorem frame_Top_0 (a0 : List T_api_Frame) {r : Int × Bool} (H : frame_Top a0 = some r) : LJ.Spec Try.prog 19 [.d (slT enc_api_Frame a0)] [] (.tup [.d (.int .i64 r.1), .d (.bool r.2)]) [] := by
  refine LJ.Spec.code Try.func19 rfl 18 rfl rfl [] rfl fun w0 F0 S0 B0 => ?_
  unfold frame_Top at H
  refine WC.seq ?_
  refine WC.region ?_
  refine WL.run 2 tt_ok sg0 rfl rfl trivial ?_
  refine WL.nil ?_
  refine QT.n ?_
  refine WC.seq ?_
  refine WC.region ?_
  refine WL.run 1 tt_ok sg0 rfl rfl trivial ?_
  obtain ⟨x1, hx1, H⟩ := of_bind H
  refine WL.call [2090] (frame_Pop_s 2090 rfl _ _ hx1) frame_Pop_f rfl rfl trivial rfl rfl rfl ?_
  refine WL.run 7 tt_ok sg0 rfl rfl trivial ?_
  refine WL.nil ?_
  refine QT.n ?_
  refine WC.seq ?_
  refine WC.seq ?_
  refine WC.region ?_
  refine WL.run 2 tt_ok sg0 rfl rfl trivial ?_
  refine WL.nil ?_
  refine QT.n ?_
  refine WC.cond rfl (fun h2 => ?_) (fun h2 => ?_)
  · replace H := of_t H h2
    refine WC.seq ?_
    refine WC.region ?_
    refine WL.run 2 tt_ok sg0 rfl rfl trivial ?_
    refine WL.nil ?_
    refine QT.n ?_
    refine WC.ret ?_
    refine QT.r ?_
    cases H
    exact Ends.auto rfl rfl rfl trivial
  replace H := of_f H h2
  refine WC.skip ?_
  refine QT.n ?_
  refine WC.seq ?_
  refine WC.region ?_
  obtain ⟨g3, H⟩ := of_need H
  refine WL.run 5 tt_ok sg0 rfl rfl ⟨⟨(nIn_ok g3).1, (nIn_ok g3).2, rfl⟩, trivial⟩ ?_
  refine WL.nil ?_
  refine QT.n ?_
  refine WC.ret ?_
  cases H
  exact Ends.auto rfl rfl rfl trivial
theorem frame_Top_f : hasFunc Try.prog 19 Try.f19 := ⟨Try.func19, rfl, by kernel_rfl⟩

/-! ### logjam/frame.Ret -/
theorem frame_Ret_0 (a0 : List T_api_Frame) {r : (List T_api_Frame) × Int × Bool} (H : frame_Ret a0 = some r) : LJ.Spec Try.prog 10 [.d (slT enc_api_Frame a0)] [] (.tup [.d (slT enc_api_Frame r.1), .d (.int .i64 r.2.1), .d (.bool r.2.2)]) [] := by
  refine LJ.Spec.code Try.func10 rfl 33 rfl rfl [] rfl fun w0 F0 S0 B0 => ?_
  unfold frame_Ret at H
  refine WC.seq ?_
  refine WC.region ?_
  refine WL.run 3 tt_ok sg0 rfl rfl trivial ?_
  refine WL.nil ?_
  refine QT.n ?_
  refine WC.seq ?_
  refine WC.region ?_
  refine WL.run 1 tt_ok sg0 rfl rfl trivial ?_
  obtain ⟨x1, hx1, H⟩ := of_bind H
  refine WL.call [] (frame_Top_0 _ hx1) frame_Top_f rfl rfl trivial rfl rfl rfl ?_
  refine WL.run 5 tt_ok sg0 rfl rfl trivial ?_
  refine WL.nil ?_
  refine QT.n ?_
  refine WC.seq ?_
  refine WC.seq ?_
  refine WC.region ?_
  refine WL.run 2 tt_ok sg0 rfl rfl trivial ?_
  refine WL.nil ?_
  refine QT.n ?_
  refine WC.cond rfl (fun h2 => ?_) (fun h2 => ?_)
  · replace H := of_t H h2
    refine WC.seq ?_
    refine WC.region ?_
    refine WL.run 3 tt_ok sg0 rfl rfl trivial ?_
    refine WL.nil ?_
    refine QT.n ?_
    refine WC.nilT 2 enc_api_Frame rfl ?_
    refine WC.ret ?_
    refine QT.r ?_
    cases H
    exact Ends.auto rfl rfl rfl trivial
  replace H := of_f H h2
  refine WC.skip ?_
  refine QT.n ?_
  refine WC.seq ?_
  refine WC.seq ?_
  refine WC.region ?_
  refine WL.run 3 tt_ok sg0 rfl rfl trivial ?_
  refine WL.nil ?_
  refine QT.n ?_
  refine WC.cond rfl (fun h3 => ?_) (fun h3 => ?_)
  · replace H := of_t H h3
    refine WC.seq ?_
    refine WC.region ?_
    refine WL.run 4 tt_ok sg0 rfl rfl trivial ?_
    refine WL.nil ?_
    refine QT.n ?_
    refine WC.nilT 2 enc_api_Frame rfl ?_
    refine WC.ret ?_
    refine QT.r ?_
    cases H
    exact Ends.auto rfl rfl rfl trivial
  replace H := of_f H h3
  refine WC.skip ?_
  refine QT.n ?_
  refine WC.seq ?_
  refine WC.region ?_
  refine WL.run 4 tt_ok sg0 rfl rfl trivial ?_
  obtain ⟨g4, H⟩ := of_need H
  refine WL.yv (LJ.Y.sliceT enc_api_Frame a0 tt_ok rfl (fun _ => rfl) none (some (.tmp 23)) (0 : Int) (IntKind.i64.wrap ((a0.length : Int) - 1)) rfl rfl ⟨_, rfl⟩ rfl rfl (nSl_ok g4)) rfl rfl rfl ?_
  refine WL.run 1 tt_ok sg0 rfl rfl trivial ?_
  obtain ⟨x5, hx5, H⟩ := of_bind H
  refine WL.call [] (frame_Push_0 _ _ hx5) frame_Push_f rfl rfl trivial rfl rfl rfl ?_
  refine WL.run 5 tt_ok sg0 rfl rfl trivial ?_
  refine WL.nil ?_
  refine QT.n ?_
  refine WC.seq ?_
  refine WC.seq ?_
  refine WC.region ?_
  refine WL.run 2 tt_ok sg0 rfl rfl trivial ?_
  refine WL.nil ?_
  refine QT.n ?_
  refine WC.cond rfl (fun h6 => ?_) (fun h6 => ?_)
  · replace H := of_t H h6
    refine WC.seq ?_
    refine WC.region ?_
    refine WL.run 3 tt_ok sg0 rfl rfl trivial ?_
    refine WL.nil ?_
    refine QT.n ?_
    refine WC.nilT 2 enc_api_Frame rfl ?_
    refine WC.ret ?_
    refine QT.r ?_
    cases H
    exact Ends.auto rfl rfl rfl trivial
  replace H := of_f H h6
  refine WC.skip ?_
  refine QT.n ?_
  refine WC.seq ?_
  refine WC.region ?_
  refine WL.run 5 tt_ok sg0 rfl rfl trivial ?_
  refine WL.nil ?_
  refine QT.n ?_
  refine WC.ret ?_
  cases H
  exact Ends.auto rfl rfl rfl trivial
theorem frame_Ret_f : hasFunc Try.prog 10 Try.f10 := ⟨Try.func10, rfl, by kernel_rfl⟩

/-! ### logjam/frame.Store -/
theorem frame_Store_0 (a0 : List T_api_Frame) (a1 : Int) (a2 : Int) {r : List T_api_Frame} (H : frame_Store a0 a1 a2 = some r) : LJ.Spec Try.prog 11 [.d (slT enc_api_Frame a0), .d (.int .i64 a1), .d (.int .i64 a2)] [] (.d (slT enc_api_Frame r)) [] := by
  refine LJ.Spec.code Try.func11 rfl 32 rfl rfl [] rfl fun w0 F0 S0 B0 => ?_
  unfold frame_Store at H
  refine WC.seq ?_
  refine WC.region ?_
  refine WL.run 1 tt_ok sg0 rfl rfl trivial ?_
  refine WL.nil ?_
  refine QT.n ?_
  refine WC.seq ?_
  refine WC.region ?_
  refine WL.run 1 tt_ok sg0 rfl rfl trivial ?_
  cases h1 : iEq (a0.length : Int) 0
  · replace H := of_f H h1
    obtain ⟨x2, hx2, H⟩ := of_bind H
    refine WL.call [2110] (frame_last_o_s 2110 rfl _ h1 hx2) frame_last_o_f rfl rfl trivial rfl rfl rfl ?_
    obtain ⟨g3, H⟩ := of_need H
    refine WL.run 5 tt_ok sg0 rfl rfl trivial ?_
    refine WL.nil ?_
    refine QT.n ?_
    refine WC.seq ?_
    refine WC.seq ?_
    refine WC.region ?_
    refine WL.run 1 tt_ok sg0 rfl rfl trivial ?_
    refine WL.yv (LJ.Y.rne rfl rfl rfl (by kernel_rfl)) rfl rfl rfl ?_
    refine WL.run 1 tt_ok sg0 rfl rfl trivial ?_
    refine WL.grun 2 2 true 16 tt_ok sg0 rfl rfl rfl rfl trivial ?_
    refine WL.pickT rfl rfl rfl rfl rfl rfl ?_
    refine WL.run 1 tt_ok sg0 rfl rfl trivial ?_
    refine WL.sect 2 6 true tt_ok sg0 rfl rfl (fun _ => trivial) ?_
    refine WL.run 1 tt_ok sg0 rfl rfl ⟨by first | exact id | exact fun h => by rw [h]; rfl | simp_all, trivial⟩ ?_
    refine WL.nil ?_
    refine QT.n ?_
    refine WC.cond rfl (fun h4 => ?_) (fun h4 => ?_)
    · replace H := of_t H h4
      refine WC.heldP (.one 0 true (.one 1 true (.one 2 true (.one 4 true (.one 5 true (.one 3 false (.one 6 true (.one 7 false .done)))))))) [2110, 1002110] [] rfl (by kernel_rfl) rfl (by kernel_rfl) rfl rfl (fun _ h => h) rfl rfl rfl (fun _ _ _ h => h) fun FK NK wK K => ?_
      refine WH.run 4 tt_ok rfl rfl rfl rfl trivial ?_
      refine WH.yv rfl (LJ.Y.fieldRel (fo := 3) rfl rfl (by kernel_rfl)) rfl rfl rfl ?_
      obtain ⟨x5, hx5, H⟩ := of_bind H
      refine WH.call [] rfl (word_Low_0 _ hx5) word_Low_f rfl rfl trivial rfl rfl rfl rfl rfl ?_
      obtain ⟨g6, H⟩ := of_need H
      refine WH.yv rfl (LJ.Y.idxRelA 8 a1 (by kernel_rfl) rfl rfl rfl (nIn_ok g6)) rfl rfl rfl ?_
      refine WH.step rfl (WO.storeRelA enc_api_Frame x2 8 3 (fun x : Int => DV.int .i64 x) ((x2.getD (IntKind.i64.wrap ((((([] : List T_api_Frame) ++ a0).map enc_api_Frame).length : Int) - 1)).toNat default).L) x5 (⟨(x2.getD (IntKind.i64.wrap ((((([] : List T_api_Frame) ++ a0).map enc_api_Frame).length : Int) - 1)).toNat default).Fn, (x2.getD (IntKind.i64.wrap ((((([] : List T_api_Frame) ++ a0).map enc_api_Frame).length : Int) - 1)).toNat default).Pc, (x2.getD (IntKind.i64.wrap ((((([] : List T_api_Frame) ++ a0).map enc_api_Frame).length : Int) - 1)).toNat default).N, (aset 8 ((x2.getD (IntKind.i64.wrap ((((([] : List T_api_Frame) ++ a0).map enc_api_Frame).length : Int) - 1)).toNat default).L) a1.toNat x5), ((x2.getD (IntKind.i64.wrap ((((([] : List T_api_Frame) ++ a0).map enc_api_Frame).length : Int) - 1)).toNat default).S)⟩ : T_api_Frame) (IntKind.i64.wrap ((((([] : List T_api_Frame) ++ a0).map enc_api_Frame).length : Int) - 1)) a1 rfl rfl rfl rfl (fun _ => rfl) rfl (by kernel_rfl) rfl rfl rfl (nIn_ok g6) (by first | exact nIn_ok g3 | (have := nIn_ok g3; simpa only [List.length_set, List.length_map] using this)) rfl rfl rfl) rfl rfl rfl ?_
      refine WH.nil rfl ?_
      refine QT.n ?_
      refine WC.seq ?_
      refine WC.region ?_
      refine WL.run 2 tt_ok sg0 rfl rfl trivial ?_
      refine WL.nil ?_
      refine QT.n ?_
      refine WC.freezeT 2110 enc_api_Frame (x2.set (IntKind.i64.wrap ((((([] : List T_api_Frame) ++ a0).map enc_api_Frame).length : Int) - 1)).toNat (⟨(x2.getD (IntKind.i64.wrap ((((([] : List T_api_Frame) ++ a0).map enc_api_Frame).length : Int) - 1)).toNat default).Fn, (x2.getD (IntKind.i64.wrap ((((([] : List T_api_Frame) ++ a0).map enc_api_Frame).length : Int) - 1)).toNat default).Pc, (x2.getD (IntKind.i64.wrap ((((([] : List T_api_Frame) ++ a0).map enc_api_Frame).length : Int) - 1)).toNat default).N, (aset 8 ((x2.getD (IntKind.i64.wrap ((((([] : List T_api_Frame) ++ a0).map enc_api_Frame).length : Int) - 1)).toNat default).L) a1.toNat x5), ((x2.getD (IntKind.i64.wrap ((((([] : List T_api_Frame) ++ a0).map enc_api_Frame).length : Int) - 1)).toNat default).S)⟩ : T_api_Frame)) rfl rfl rfl rfl ?_
      refine WC.ret ?_
      cases H
      exact Ends.auto rfl rfl rfl trivial
    replace H := of_f H h4
    refine WC.skip ?_
    refine QT.n ?_
    refine WC.seq ?_
    refine WC.region ?_
    refine WL.run 2 tt_ok sg0 rfl rfl trivial ?_
    refine WL.nil ?_
    refine QT.n ?_
    refine WC.freezeT 2110 enc_api_Frame x2 rfl rfl rfl rfl ?_
    refine WC.ret ?_
    cases H
    exact Ends.auto rfl rfl rfl trivial
  · replace H := of_t H h1
    obtain ⟨x7, hx7, H⟩ := of_bind H
    refine WL.call [] (frame_last_n_0 _ h1 hx7) frame_last_n_f rfl rfl trivial rfl rfl rfl ?_
    refine WL.run 5 tt_ok sg0 rfl rfl trivial ?_
    refine WL.nil ?_
    refine QT.n ?_
    refine WC.seq ?_
    refine WC.seq ?_
    refine WC.region ?_
    refine WL.run 3 tt_ok sg0 rfl rfl trivial ?_
    refine WL.gskips 2 2 true 16 rfl rfl rfl rfl ?_
    refine WL.pickF rfl rfl rfl rfl rfl rfl ?_
    refine WL.run 1 tt_ok sg0 rfl rfl trivial ?_
    refine WL.gskips 2 6 true 20 rfl rfl rfl rfl ?_
    refine WL.pickF rfl rfl rfl rfl rfl rfl ?_
    refine WL.nil ?_
    refine QT.n ?_
    refine WC.cond rfl (fun h => absurd h (by decide)) (fun h => ?_)
    refine WC.skip ?_
    refine QT.n ?_
    refine WC.seq ?_
    refine WC.region ?_
    refine WL.run 2 tt_ok sg0 rfl rfl trivial ?_
    refine WL.nil ?_
    refine QT.n ?_
    refine WC.ret ?_
    cases H
    exact Ends.auto rfl rfl rfl trivial
theorem frame_Store_f : hasFunc Try.prog 11 Try.f11 := ⟨Try.func11, rfl, by kernel_rfl⟩

/-! ### logjam/frame.Go -/
theorem frame_Go_0 (a0 : List T_api_Frame) (a1 : Int) {r : List T_api_Frame} (H : frame_Go a0 a1 = some r) : LJ.Spec Try.prog 12 [.d (slT enc_api_Frame a0), .d (.int .i64 a1)] [] (.d (slT enc_api_Frame r)) [] := by
  refine LJ.Spec.code Try.func12 rfl 19 rfl rfl [] rfl fun w0 F0 S0 B0 => ?_
  unfold frame_Go at H
  refine WC.seq ?_
  refine WC.region ?_
  refine WL.run 1 tt_ok sg0 rfl rfl trivial ?_
  refine WL.nil ?_
  refine QT.n ?_
  refine WC.seq ?_
  refine WC.region ?_
  refine WL.run 1 tt_ok sg0 rfl rfl trivial ?_
  cases h1 : iEq (a0.length : Int) 0
  · replace H := of_f H h1
    obtain ⟨x2, hx2, H⟩ := of_bind H
    refine WL.call [2090] (frame_last_o_s 2090 rfl _ h1 hx2) frame_last_o_f rfl rfl trivial rfl rfl rfl ?_
    obtain ⟨g3, H⟩ := of_need H
    refine WL.run 5 tt_ok sg0 rfl rfl trivial ?_
    refine WL.nil ?_
    refine QT.n ?_
    refine WC.seq ?_
    refine WC.seq ?_
    refine WC.region ?_
    refine WL.run 1 tt_ok sg0 rfl rfl trivial ?_
    refine WL.yv (LJ.Y.rne rfl rfl rfl (by kernel_rfl)) rfl rfl rfl ?_
    refine WL.nil ?_
    refine QT.n ?_
    refine WC.cond rfl (fun h => ?_) (fun h => absurd h (by decide))
    refine WC.region ?_
    refine WL.run 3 tt_ok sg0 rfl rfl trivial ?_
    refine WL.yv (LJ.Y.fieldRel (fo := 1) rfl rfl (by kernel_rfl)) rfl rfl rfl ?_
    refine WL.storeRel enc_api_Frame x2 (IntKind.i64.wrap ((((([] : List T_api_Frame) ++ a0).map enc_api_Frame).length : Int) - 1)) 1 (⟨(x2.getD (IntKind.i64.wrap ((((([] : List T_api_Frame) ++ a0).map enc_api_Frame).length : Int) - 1)).toNat default).Fn, a1, (x2.getD (IntKind.i64.wrap ((((([] : List T_api_Frame) ++ a0).map enc_api_Frame).length : Int) - 1)).toNat default).N, ((x2.getD (IntKind.i64.wrap ((((([] : List T_api_Frame) ++ a0).map enc_api_Frame).length : Int) - 1)).toNat default).L), ((x2.getD (IntKind.i64.wrap ((((([] : List T_api_Frame) ++ a0).map enc_api_Frame).length : Int) - 1)).toNat default).S)⟩ : T_api_Frame) (.int .i64 a1) rfl rfl rfl rfl (fun _ => rfl) rfl (by kernel_rfl) rfl rfl (by first | exact nIn_ok g3 | (have := nIn_ok g3; simpa only [List.length_set, List.length_map] using this)) rfl rfl rfl rfl ?_
    refine WL.nil ?_
    refine QT.n ?_
    refine WC.seq ?_
    refine WC.region ?_
    refine WL.run 2 tt_ok sg0 rfl rfl trivial ?_
    refine WL.nil ?_
    refine QT.n ?_
    refine WC.freezeT 2090 enc_api_Frame (x2.set (IntKind.i64.wrap ((((([] : List T_api_Frame) ++ a0).map enc_api_Frame).length : Int) - 1)).toNat (⟨(x2.getD (IntKind.i64.wrap ((((([] : List T_api_Frame) ++ a0).map enc_api_Frame).length : Int) - 1)).toNat default).Fn, a1, (x2.getD (IntKind.i64.wrap ((((([] : List T_api_Frame) ++ a0).map enc_api_Frame).length : Int) - 1)).toNat default).N, ((x2.getD (IntKind.i64.wrap ((((([] : List T_api_Frame) ++ a0).map enc_api_Frame).length : Int) - 1)).toNat default).L), ((x2.getD (IntKind.i64.wrap ((((([] : List T_api_Frame) ++ a0).map enc_api_Frame).length : Int) - 1)).toNat default).S)⟩ : T_api_Frame)) rfl rfl rfl rfl ?_
    refine WC.ret ?_
    cases H
    exact Ends.auto rfl rfl rfl trivial
  · replace H := of_t H h1
    obtain ⟨x4, hx4, H⟩ := of_bind H
    refine WL.call [] (frame_last_n_0 _ h1 hx4) frame_last_n_f rfl rfl trivial rfl rfl rfl ?_
    refine WL.run 5 tt_ok sg0 rfl rfl trivial ?_
    refine WL.nil ?_
    refine QT.n ?_
    refine WC.seq ?_
    refine WC.seq ?_
    refine WC.region ?_
    refine WL.run 2 tt_ok sg0 rfl rfl trivial ?_
    refine WL.nil ?_
    refine QT.n ?_
    refine WC.cond rfl (fun h => absurd h (by decide)) (fun h => ?_)
    refine WC.skip ?_
    refine QT.n ?_
    refine WC.seq ?_
    refine WC.region ?_
    refine WL.run 2 tt_ok sg0 rfl rfl trivial ?_
    refine WL.nil ?_
    refine QT.n ?_
    refine WC.ret ?_
    cases H
    exact Ends.auto rfl rfl rfl trivial
theorem frame_Go_f : hasFunc Try.prog 12 Try.f12 := ⟨Try.func12, rfl, by kernel_rfl⟩

/-! ### logjam/logjamref14.with -/
theorem ref14_with_0 (a0 : List T_api_Frame) (a1 : T_api_Frame) {r : List T_api_Frame} (H : ref14_with a0 a1 = some r) : LJ.Spec Try.prog 28 [.d (slT enc_api_Frame a0), .d (.agg [.int .i64 a1.Fn, .int .i64 a1.Pc, .int .i64 a1.N, .int .i64 (a1.L.getD 0 default), .int .i64 (a1.L.getD 1 default), .int .i64 (a1.L.getD 2 default), .int .i64 (a1.L.getD 3 default), .int .i64 (a1.L.getD 4 default), .int .i64 (a1.L.getD 5 default), .int .i64 (a1.L.getD 6 default), .int .i64 (a1.L.getD 7 default), .int .i64 (a1.S.getD 0 default), .int .i64 (a1.S.getD 1 default), .int .i64 (a1.S.getD 2 default), .int .i64 (a1.S.getD 3 default), .int .i64 (a1.S.getD 4 default), .int .i64 (a1.S.getD 5 default), .int .i64 (a1.S.getD 6 default), .int .i64 (a1.S.getD 7 default), .int .i64 (a1.S.getD 8 default), .int .i64 (a1.S.getD 9 default), .int .i64 (a1.S.getD 10 default), .int .i64 (a1.S.getD 11 default), .int .i64 (a1.S.getD 12 default), .int .i64 (a1.S.getD 13 default), .int .i64 (a1.S.getD 14 default), .int .i64 (a1.S.getD 15 default)])] [] (.own 0) [(0, .row 45 27 (r.map enc_api_Frame))] := by
  refine LJ.Spec.code Try.func28 rfl 15 rfl rfl [] rfl fun w0 F0 S0 B0 => ?_
  unfold ref14_with at H
  refine WC.seq ?_
  refine WC.region ?_
  refine WL.eff 103 tt_ok et_ok eg0 rfl rfl rfl trivial ?_
  refine WL.run 1 tt_ok sg0 rfl rfl trivial ?_
  refine WL.nil ?_
  refine QT.n ?_
  refine WC.seq ?_
  obtain ⟨g1_5_1, H⟩ := of_need H
  obtain ⟨g1_6_1, H⟩ := of_need H
  obtain ⟨g1_9_1, H⟩ := of_need H
  refine WC.heldF [(4, .own 0)] [(0, .row 45 27 (((([] : List T_api_Frame) ++ ((a0.take (IntKind.i64.wrap ((a0.length : Int) - 1)).toNat).drop (0 : Int).toNat)) ++ ([a1] : List T_api_Frame)).map enc_api_Frame))] (.one 1 true (.one 2 true (.one 3 true (.one 4 true (.one 5 true (.one 7 true (.fork (.one 0 false (.fork (.one 6 false (.one 8 false (.one 9 false (.one 10 true .done)))) (.one 8 false (.one 6 false (.one 9 false (.one 10 true .done)))))) (.one 8 false (.one 0 false (.one 6 false (.one 9 false (.one 10 true .done)))))))))))) [103] [103] rfl (by kernel_rfl) rfl (by kernel_rfl) rfl rfl (fun _ h => h) rfl rfl rfl (fun FK NK wK K => ?_) ?_
  · refine WH.run 4 tt_ok rfl rfl rfl rfl trivial ?_
    refine WH.yv rfl (LJ.Y.sliceT enc_api_Frame a0 tt_ok rfl (fun _ => rfl) none (some (.tmp 9)) (0 : Int) (IntKind.i64.wrap ((a0.length : Int) - 1)) rfl rfl ⟨_, rfl⟩ rfl rfl (nSl_ok g1_5_1)) rfl rfl rfl ?_
    refine WH.run 1 tt_ok rfl rfl rfl rfl trivial ?_
    refine WH.fork ?_ ?_
    · refine WH.eff 0 tt_ok et_ok rfl rfl rfl rfl trivial rfl rfl ?_
      refine WH.fork ?_ ?_
      · refine WH.row 0 (([] : List T_api_Frame).map enc_api_Frame) rfl rfl rfl ?_
        refine WH.appT enc_api_Frame ([] : List T_api_Frame) ((a0.take (IntKind.i64.wrap ((a0.length : Int) - 1)).toNat).drop (0 : Int).toNat) tt_ok et_ok rfl rfl (fun _ => rfl) (fun _ => rfl) rfl rfl rfl rfl rfl (nCap_ok g1_6_1) rfl rfl rfl rfl rfl rfl rfl ?_
        refine WH.eff 113 tt_ok et_ok rfl rfl rfl rfl trivial rfl rfl ?_
        refine WH.freezeT 113 enc_api_Frame ([a1] : List T_api_Frame) rfl rfl rfl rfl ?_
        refine WH.appT enc_api_Frame (([] : List T_api_Frame) ++ ((a0.take (IntKind.i64.wrap ((a0.length : Int) - 1)).toNat).drop (0 : Int).toNat)) ([a1] : List T_api_Frame) tt_ok et_ok rfl rfl (fun _ => rfl) (fun _ => rfl) rfl rfl rfl rfl rfl (nCap_ok g1_9_1) rfl rfl rfl rfl rfl rfl rfl ?_
        refine WH.mv rfl rfl rfl rfl rfl rfl rfl rfl rfl ?_
        exact WH.nilF rfl (LessW.mk' ⟨AVle.of rfl, trivial⟩ ⟨rfl, trivial⟩)
      · refine WH.eff 113 tt_ok et_ok rfl rfl rfl rfl trivial rfl rfl ?_
        refine WH.freezeT 113 enc_api_Frame ([a1] : List T_api_Frame) rfl rfl rfl rfl ?_
        refine WH.row 0 (([] : List T_api_Frame).map enc_api_Frame) rfl rfl rfl ?_
        refine WH.appT enc_api_Frame ([] : List T_api_Frame) ((a0.take (IntKind.i64.wrap ((a0.length : Int) - 1)).toNat).drop (0 : Int).toNat) tt_ok et_ok rfl rfl (fun _ => rfl) (fun _ => rfl) rfl rfl rfl rfl rfl (nCap_ok g1_6_1) rfl rfl rfl rfl rfl rfl rfl ?_
        refine WH.appT enc_api_Frame (([] : List T_api_Frame) ++ ((a0.take (IntKind.i64.wrap ((a0.length : Int) - 1)).toNat).drop (0 : Int).toNat)) ([a1] : List T_api_Frame) tt_ok et_ok rfl rfl (fun _ => rfl) (fun _ => rfl) rfl rfl rfl rfl rfl (nCap_ok g1_9_1) rfl rfl rfl rfl rfl rfl rfl ?_
        refine WH.mv rfl rfl rfl rfl rfl rfl rfl rfl rfl ?_
        exact WH.nilF rfl (LessW.mk' ⟨AVle.of rfl, trivial⟩ ⟨rfl, trivial⟩)
    · refine WH.eff 113 tt_ok et_ok rfl rfl rfl rfl trivial rfl rfl ?_
      refine WH.freezeT 113 enc_api_Frame ([a1] : List T_api_Frame) rfl rfl rfl rfl ?_
      refine WH.eff 0 tt_ok et_ok rfl rfl rfl rfl trivial rfl rfl ?_
      refine WH.row 0 (([] : List T_api_Frame).map enc_api_Frame) rfl rfl rfl ?_
      refine WH.appT enc_api_Frame ([] : List T_api_Frame) ((a0.take (IntKind.i64.wrap ((a0.length : Int) - 1)).toNat).drop (0 : Int).toNat) tt_ok et_ok rfl rfl (fun _ => rfl) (fun _ => rfl) rfl rfl rfl rfl rfl (nCap_ok g1_6_1) rfl rfl rfl rfl rfl rfl rfl ?_
      refine WH.appT enc_api_Frame (([] : List T_api_Frame) ++ ((a0.take (IntKind.i64.wrap ((a0.length : Int) - 1)).toNat).drop (0 : Int).toNat)) ([a1] : List T_api_Frame) tt_ok et_ok rfl rfl (fun _ => rfl) (fun _ => rfl) rfl rfl rfl rfl rfl (nCap_ok g1_9_1) rfl rfl rfl rfl rfl rfl rfl ?_
      refine WH.mv rfl rfl rfl rfl rfl rfl rfl rfl rfl ?_
      exact WH.nilF rfl (LessW.mk' ⟨AVle.of rfl, trivial⟩ ⟨rfl, trivial⟩)
  · refine QT.n ?_
    refine WC.ret ?_
    cases H
    exact Ends.auto rfl rfl rfl ⟨rfl, trivial⟩
theorem ref14_with_s (n0 : Nat) (hn : nodupB [n0] = true) (a0 : List T_api_Frame) (a1 : T_api_Frame) {r : List T_api_Frame} (H : ref14_with a0 a1 = some r) : LJ.Spec Try.prog 28 [.d (slT enc_api_Frame a0), .d (.agg [.int .i64 a1.Fn, .int .i64 a1.Pc, .int .i64 a1.N, .int .i64 (a1.L.getD 0 default), .int .i64 (a1.L.getD 1 default), .int .i64 (a1.L.getD 2 default), .int .i64 (a1.L.getD 3 default), .int .i64 (a1.L.getD 4 default), .int .i64 (a1.L.getD 5 default), .int .i64 (a1.L.getD 6 default), .int .i64 (a1.L.getD 7 default), .int .i64 (a1.S.getD 0 default), .int .i64 (a1.S.getD 1 default), .int .i64 (a1.S.getD 2 default), .int .i64 (a1.S.getD 3 default), .int .i64 (a1.S.getD 4 default), .int .i64 (a1.S.getD 5 default), .int .i64 (a1.S.getD 6 default), .int .i64 (a1.S.getD 7 default), .int .i64 (a1.S.getD 8 default), .int .i64 (a1.S.getD 9 default), .int .i64 (a1.S.getD 10 default), .int .i64 (a1.S.getD 11 default), .int .i64 (a1.S.getD 12 default), .int .i64 (a1.S.getD 13 default), .int .i64 (a1.S.getD 14 default), .int .i64 (a1.S.getD 15 default)])] [] (.own n0) [(n0, .row 45 27 (r.map enc_api_Frame))] :=
  Spec.names [n0] hn rfl rfl (ref14_with_0 a0 a1 H)
theorem ref14_with_f : hasFunc Try.prog 28 Try.f28 := ⟨Try.func28, rfl, by kernel_rfl⟩

/-! ### logjam/logjamref14.Push -/
theorem ref14_Push_0 (a0 : List T_api_Frame) (a1 : Int) {r : (List T_api_Frame) × Bool} (H : ref14_Push a0 a1 = some r) : LJ.Spec Try.prog 20 [.d (slT enc_api_Frame a0), .d (.int .i64 a1)] [] (.tup [.d (slT enc_api_Frame r.1), .d (.bool r.2)]) [] := by
  refine LJ.Spec.code Try.func20 rfl 49 rfl rfl [] rfl fun w0 F0 S0 B0 => ?_
  unfold ref14_Push at H
  refine WC.seq ?_
  refine WC.region ?_
  refine WL.run 2 tt_ok sg0 rfl rfl trivial ?_
  refine WL.nil ?_
  refine QT.n ?_
  refine WC.seq ?_
  refine WC.seq ?_
  refine WC.region ?_
  refine WL.run 4 tt_ok sg0 rfl rfl trivial ?_
  obtain ⟨g1, H⟩ := of_needS H
  refine WL.sect 8 3 false tt_ok sg0 rfl rfl (fun hb => ⟨⟨(nIn_ok (g1 hb)).1, (nIn_ok (g1 hb)).2, rfl⟩, trivial⟩) ?_
  refine WL.run 2 tt_ok sg0 rfl rfl ⟨by first | exact id | exact fun h => by rw [h]; rfl | simp_all, trivial⟩ ?_
  obtain ⟨g2, H⟩ := of_needS H
  refine WL.sect 8 13 false tt_ok sg0 rfl rfl (fun hb => ⟨⟨(nIn_ok (g2 hb)).1, (nIn_ok (g2 hb)).2, rfl⟩, trivial⟩) ?_
  refine WL.run 1 tt_ok sg0 rfl rfl ⟨by first | exact id | exact fun h => by rw [h]; rfl | simp_all, trivial⟩ ?_
  refine WL.nil ?_
  refine QT.n ?_
  refine WC.cond rfl (fun h3 => ?_) (fun h3 => ?_)
  · replace H := of_t H h3
    refine WC.seq ?_
    refine WC.region ?_
    refine WL.run 2 tt_ok sg0 rfl rfl trivial ?_
    refine WL.nil ?_
    refine QT.n ?_
    refine WC.nilT 4 enc_api_Frame rfl ?_
    refine WC.ret ?_
    refine QT.r ?_
    cases H
    exact Ends.auto rfl rfl rfl trivial
  replace H := of_f H h3
  refine WC.skip ?_
  refine QT.n ?_
  refine WC.seq ?_
  refine WC.region ?_
  obtain ⟨g4, H⟩ := of_need H
  refine WL.run 6 tt_ok sg0 rfl rfl ⟨⟨(nIn_ok g4).1, (nIn_ok g4).2, rfl⟩, trivial⟩ ?_
  refine WL.alloc 106 tt_ok rfl rfl rfl ?_
  refine WL.eff 0 tt_ok et_ok eg0 rfl rfl rfl trivial ?_
  refine WL.nil ?_
  refine QT.n ?_
  refine WC.seq ?_
  obtain ⟨x4_3_1, hx4_3_1, H⟩ := of_bind H
  obtain ⟨g4_8_1, H⟩ := of_need H
  refine WC.heldF [(0, .d (slT enc_api_Frame a0)), (6, .ptr 106 0)] [(106, .box 45 [.d (.int .i64 ((a0.getD (IntKind.i64.wrap ((a0.length : Int) - 1)).toNat default).Fn)), .d (.int .i64 ((a0.getD (IntKind.i64.wrap ((a0.length : Int) - 1)).toNat default).Pc)), .d (.int .i64 (IntKind.i64.wrap (((a0.getD (IntKind.i64.wrap ((a0.length : Int) - 1)).toNat default).N) + 1))), .d (.int .i64 (((a0.getD (IntKind.i64.wrap ((a0.length : Int) - 1)).toNat default).L).getD 0 default)), .d (.int .i64 (((a0.getD (IntKind.i64.wrap ((a0.length : Int) - 1)).toNat default).L).getD 1 default)), .d (.int .i64 (((a0.getD (IntKind.i64.wrap ((a0.length : Int) - 1)).toNat default).L).getD 2 default)), .d (.int .i64 (((a0.getD (IntKind.i64.wrap ((a0.length : Int) - 1)).toNat default).L).getD 3 default)), .d (.int .i64 (((a0.getD (IntKind.i64.wrap ((a0.length : Int) - 1)).toNat default).L).getD 4 default)), .d (.int .i64 (((a0.getD (IntKind.i64.wrap ((a0.length : Int) - 1)).toNat default).L).getD 5 default)), .d (.int .i64 (((a0.getD (IntKind.i64.wrap ((a0.length : Int) - 1)).toNat default).L).getD 6 default)), .d (.int .i64 (((a0.getD (IntKind.i64.wrap ((a0.length : Int) - 1)).toNat default).L).getD 7 default)), .d (.int .i64 ((aset 16 ((a0.getD (IntKind.i64.wrap ((a0.length : Int) - 1)).toNat default).S) ((a0.getD (IntKind.i64.wrap ((a0.length : Int) - 1)).toNat default).N).toNat x4_3_1).getD 0 default)), .d (.int .i64 ((aset 16 ((a0.getD (IntKind.i64.wrap ((a0.length : Int) - 1)).toNat default).S) ((a0.getD (IntKind.i64.wrap ((a0.length : Int) - 1)).toNat default).N).toNat x4_3_1).getD 1 default)), .d (.int .i64 ((aset 16 ((a0.getD (IntKind.i64.wrap ((a0.length : Int) - 1)).toNat default).S) ((a0.getD (IntKind.i64.wrap ((a0.length : Int) - 1)).toNat default).N).toNat x4_3_1).getD 2 default)), .d (.int .i64 ((aset 16 ((a0.getD (IntKind.i64.wrap ((a0.length : Int) - 1)).toNat default).S) ((a0.getD (IntKind.i64.wrap ((a0.length : Int) - 1)).toNat default).N).toNat x4_3_1).getD 3 default)), .d (.int .i64 ((aset 16 ((a0.getD (IntKind.i64.wrap ((a0.length : Int) - 1)).toNat default).S) ((a0.getD (IntKind.i64.wrap ((a0.length : Int) - 1)).toNat default).N).toNat x4_3_1).getD 4 default)), .d (.int .i64 ((aset 16 ((a0.getD (IntKind.i64.wrap ((a0.length : Int) - 1)).toNat default).S) ((a0.getD (IntKind.i64.wrap ((a0.length : Int) - 1)).toNat default).N).toNat x4_3_1).getD 5 default)), .d (.int .i64 ((aset 16 ((a0.getD (IntKind.i64.wrap ((a0.length : Int) - 1)).toNat default).S) ((a0.getD (IntKind.i64.wrap ((a0.length : Int) - 1)).toNat default).N).toNat x4_3_1).getD 6 default)), .d (.int .i64 ((aset 16 ((a0.getD (IntKind.i64.wrap ((a0.length : Int) - 1)).toNat default).S) ((a0.getD (IntKind.i64.wrap ((a0.length : Int) - 1)).toNat default).N).toNat x4_3_1).getD 7 default)), .d (.int .i64 ((aset 16 ((a0.getD (IntKind.i64.wrap ((a0.length : Int) - 1)).toNat default).S) ((a0.getD (IntKind.i64.wrap ((a0.length : Int) - 1)).toNat default).N).toNat x4_3_1).getD 8 default)), .d (.int .i64 ((aset 16 ((a0.getD (IntKind.i64.wrap ((a0.length : Int) - 1)).toNat default).S) ((a0.getD (IntKind.i64.wrap ((a0.length : Int) - 1)).toNat default).N).toNat x4_3_1).getD 9 default)), .d (.int .i64 ((aset 16 ((a0.getD (IntKind.i64.wrap ((a0.length : Int) - 1)).toNat default).S) ((a0.getD (IntKind.i64.wrap ((a0.length : Int) - 1)).toNat default).N).toNat x4_3_1).getD 10 default)), .d (.int .i64 ((aset 16 ((a0.getD (IntKind.i64.wrap ((a0.length : Int) - 1)).toNat default).S) ((a0.getD (IntKind.i64.wrap ((a0.length : Int) - 1)).toNat default).N).toNat x4_3_1).getD 11 default)), .d (.int .i64 ((aset 16 ((a0.getD (IntKind.i64.wrap ((a0.length : Int) - 1)).toNat default).S) ((a0.getD (IntKind.i64.wrap ((a0.length : Int) - 1)).toNat default).N).toNat x4_3_1).getD 12 default)), .d (.int .i64 ((aset 16 ((a0.getD (IntKind.i64.wrap ((a0.length : Int) - 1)).toNat default).S) ((a0.getD (IntKind.i64.wrap ((a0.length : Int) - 1)).toNat default).N).toNat x4_3_1).getD 13 default)), .d (.int .i64 ((aset 16 ((a0.getD (IntKind.i64.wrap ((a0.length : Int) - 1)).toNat default).S) ((a0.getD (IntKind.i64.wrap ((a0.length : Int) - 1)).toNat default).N).toNat x4_3_1).getD 14 default)), .d (.int .i64 ((aset 16 ((a0.getD (IntKind.i64.wrap ((a0.length : Int) - 1)).toNat default).S) ((a0.getD (IntKind.i64.wrap ((a0.length : Int) - 1)).toNat default).N).toNat x4_3_1).getD 15 default))])] (.one 0 true (.one 2 true (.one 4 true (.one 7 true (.fork (.one 1 false (.fork (.one 3 false (.one 5 false (.one 6 true (.one 8 true (.one 9 false (.one 10 true (.one 11 false .done))))))) (.one 5 false (.one 6 true (.one 3 false (.one 8 true (.one 9 false (.one 10 true (.one 11 false .done))))))))) (.fork (.one 3 false (.fork (.one 1 false (.one 5 false (.one 6 true (.one 8 true (.one 9 false (.one 10 true (.one 11 false .done))))))) (.one 5 false (.one 6 true (.one 1 false (.one 8 true (.one 9 false (.one 10 true (.one 11 false .done))))))))) (.one 5 false (.one 6 true (.fork (.one 1 false (.one 3 false (.one 8 true (.one 9 false (.one 10 true (.one 11 false .done)))))) (.one 3 false (.one 1 false (.one 8 true (.one 9 false (.one 10 true (.one 11 false .done))))))))))))))) [106] [] rfl (by kernel_rfl) rfl (by kernel_rfl) rfl rfl (fun _ h => h) rfl rfl rfl (fun FK NK wK K => ?_) ?_
  · refine WH.run 4 tt_ok rfl rfl rfl rfl trivial ?_
    refine WH.fork ?_ (WH.fork ?_ ?_)
    · refine WH.val tt_ok rfl rfl rfl rfl rfl trivial rfl rfl ?_
      refine WH.fork ?_ ?_
      · refine WH.call [] rfl (ref03_Low_0 _ hx4_3_1) ref03_Low_f rfl rfl trivial rfl rfl rfl rfl rfl ?_
        refine WH.val tt_ok rfl rfl rfl rfl rfl trivial rfl rfl ?_
        refine WH.run 1 tt_ok rfl rfl rfl rfl trivial ?_
        refine WH.yv rfl (LJ.Y.idxPtrA 16 ((a0.getD (IntKind.i64.wrap ((a0.length : Int) - 1)).toNat default).N) (by kernel_rfl) rfl rfl rfl (nIn_ok g4_8_1)) rfl rfl rfl ?_
        refine WH.step rfl (WO.storePtrA 16 11 (fun x : Int => DV.int .i64 x) ((a0.getD (IntKind.i64.wrap ((a0.length : Int) - 1)).toNat default).S) x4_3_1 ((a0.getD (IntKind.i64.wrap ((a0.length : Int) - 1)).toNat default).N) (cs' := [.d (.int .i64 ((a0.getD (IntKind.i64.wrap ((a0.length : Int) - 1)).toNat default).Fn)), .d (.int .i64 ((a0.getD (IntKind.i64.wrap ((a0.length : Int) - 1)).toNat default).Pc)), .d (.int .i64 ((a0.getD (IntKind.i64.wrap ((a0.length : Int) - 1)).toNat default).N)), .d (.int .i64 (((a0.getD (IntKind.i64.wrap ((a0.length : Int) - 1)).toNat default).L).getD 0 default)), .d (.int .i64 (((a0.getD (IntKind.i64.wrap ((a0.length : Int) - 1)).toNat default).L).getD 1 default)), .d (.int .i64 (((a0.getD (IntKind.i64.wrap ((a0.length : Int) - 1)).toNat default).L).getD 2 default)), .d (.int .i64 (((a0.getD (IntKind.i64.wrap ((a0.length : Int) - 1)).toNat default).L).getD 3 default)), .d (.int .i64 (((a0.getD (IntKind.i64.wrap ((a0.length : Int) - 1)).toNat default).L).getD 4 default)), .d (.int .i64 (((a0.getD (IntKind.i64.wrap ((a0.length : Int) - 1)).toNat default).L).getD 5 default)), .d (.int .i64 (((a0.getD (IntKind.i64.wrap ((a0.length : Int) - 1)).toNat default).L).getD 6 default)), .d (.int .i64 (((a0.getD (IntKind.i64.wrap ((a0.length : Int) - 1)).toNat default).L).getD 7 default)), .d (.int .i64 ((aset 16 ((a0.getD (IntKind.i64.wrap ((a0.length : Int) - 1)).toNat default).S) ((a0.getD (IntKind.i64.wrap ((a0.length : Int) - 1)).toNat default).N).toNat x4_3_1).getD 0 default)), .d (.int .i64 ((aset 16 ((a0.getD (IntKind.i64.wrap ((a0.length : Int) - 1)).toNat default).S) ((a0.getD (IntKind.i64.wrap ((a0.length : Int) - 1)).toNat default).N).toNat x4_3_1).getD 1 default)), .d (.int .i64 ((aset 16 ((a0.getD (IntKind.i64.wrap ((a0.length : Int) - 1)).toNat default).S) ((a0.getD (IntKind.i64.wrap ((a0.length : Int) - 1)).toNat default).N).toNat x4_3_1).getD 2 default)), .d (.int .i64 ((aset 16 ((a0.getD (IntKind.i64.wrap ((a0.length : Int) - 1)).toNat default).S) ((a0.getD (IntKind.i64.wrap ((a0.length : Int) - 1)).toNat default).N).toNat x4_3_1).getD 3 default)), .d (.int .i64 ((aset 16 ((a0.getD (IntKind.i64.wrap ((a0.length : Int) - 1)).toNat default).S) ((a0.getD (IntKind.i64.wrap ((a0.length : Int) - 1)).toNat default).N).toNat x4_3_1).getD 4 default)), .d (.int .i64 ((aset 16 ((a0.getD (IntKind.i64.wrap ((a0.length : Int) - 1)).toNat default).S) ((a0.getD (IntKind.i64.wrap ((a0.length : Int) - 1)).toNat default).N).toNat x4_3_1).getD 5 default)), .d (.int .i64 ((aset 16 ((a0.getD (IntKind.i64.wrap ((a0.length : Int) - 1)).toNat default).S) ((a0.getD (IntKind.i64.wrap ((a0.length : Int) - 1)).toNat default).N).toNat x4_3_1).getD 6 default)), .d (.int .i64 ((aset 16 ((a0.getD (IntKind.i64.wrap ((a0.length : Int) - 1)).toNat default).S) ((a0.getD (IntKind.i64.wrap ((a0.length : Int) - 1)).toNat default).N).toNat x4_3_1).getD 7 default)), .d (.int .i64 ((aset 16 ((a0.getD (IntKind.i64.wrap ((a0.length : Int) - 1)).toNat default).S) ((a0.getD (IntKind.i64.wrap ((a0.length : Int) - 1)).toNat default).N).toNat x4_3_1).getD 8 default)), .d (.int .i64 ((aset 16 ((a0.getD (IntKind.i64.wrap ((a0.length : Int) - 1)).toNat default).S) ((a0.getD (IntKind.i64.wrap ((a0.length : Int) - 1)).toNat default).N).toNat x4_3_1).getD 9 default)), .d (.int .i64 ((aset 16 ((a0.getD (IntKind.i64.wrap ((a0.length : Int) - 1)).toNat default).S) ((a0.getD (IntKind.i64.wrap ((a0.length : Int) - 1)).toNat default).N).toNat x4_3_1).getD 10 default)), .d (.int .i64 ((aset 16 ((a0.getD (IntKind.i64.wrap ((a0.length : Int) - 1)).toNat default).S) ((a0.getD (IntKind.i64.wrap ((a0.length : Int) - 1)).toNat default).N).toNat x4_3_1).getD 11 default)), .d (.int .i64 ((aset 16 ((a0.getD (IntKind.i64.wrap ((a0.length : Int) - 1)).toNat default).S) ((a0.getD (IntKind.i64.wrap ((a0.length : Int) - 1)).toNat default).N).toNat x4_3_1).getD 12 default)), .d (.int .i64 ((aset 16 ((a0.getD (IntKind.i64.wrap ((a0.length : Int) - 1)).toNat default).S) ((a0.getD (IntKind.i64.wrap ((a0.length : Int) - 1)).toNat default).N).toNat x4_3_1).getD 13 default)), .d (.int .i64 ((aset 16 ((a0.getD (IntKind.i64.wrap ((a0.length : Int) - 1)).toNat default).S) ((a0.getD (IntKind.i64.wrap ((a0.length : Int) - 1)).toNat default).N).toNat x4_3_1).getD 14 default)), .d (.int .i64 ((aset 16 ((a0.getD (IntKind.i64.wrap ((a0.length : Int) - 1)).toNat default).S) ((a0.getD (IntKind.i64.wrap ((a0.length : Int) - 1)).toNat default).N).toNat x4_3_1).getD 15 default))]) rfl rfl rfl rfl rfl (by kernel_rfl) rfl rfl (nIn_ok g4_8_1) rfl rfl rfl) rfl rfl rfl ?_
        refine WH.run 1 tt_ok rfl rfl rfl rfl trivial ?_
        refine WH.eff 0 tt_ok et_ok rfl rfl rfl rfl trivial rfl rfl ?_
        exact WH.nilF rfl (LessW.mk' ⟨AVle.of rfl, AVle.of rfl, trivial⟩ ⟨rfl, trivial⟩)
      · refine WH.val tt_ok rfl rfl rfl rfl rfl trivial rfl rfl ?_
        refine WH.run 1 tt_ok rfl rfl rfl rfl trivial ?_
        refine WH.call [] rfl (ref03_Low_0 _ hx4_3_1) ref03_Low_f rfl rfl trivial rfl rfl rfl rfl rfl ?_
        refine WH.yv rfl (LJ.Y.idxPtrA 16 ((a0.getD (IntKind.i64.wrap ((a0.length : Int) - 1)).toNat default).N) (by kernel_rfl) rfl rfl rfl (nIn_ok g4_8_1)) rfl rfl rfl ?_
        refine WH.step rfl (WO.storePtrA 16 11 (fun x : Int => DV.int .i64 x) ((a0.getD (IntKind.i64.wrap ((a0.length : Int) - 1)).toNat default).S) x4_3_1 ((a0.getD (IntKind.i64.wrap ((a0.length : Int) - 1)).toNat default).N) (cs' := [.d (.int .i64 ((a0.getD (IntKind.i64.wrap ((a0.length : Int) - 1)).toNat default).Fn)), .d (.int .i64 ((a0.getD (IntKind.i64.wrap ((a0.length : Int) - 1)).toNat default).Pc)), .d (.int .i64 ((a0.getD (IntKind.i64.wrap ((a0.length : Int) - 1)).toNat default).N)), .d (.int .i64 (((a0.getD (IntKind.i64.wrap ((a0.length : Int) - 1)).toNat default).L).getD 0 default)), .d (.int .i64 (((a0.getD (IntKind.i64.wrap ((a0.length : Int) - 1)).toNat default).L).getD 1 default)), .d (.int .i64 (((a0.getD (IntKind.i64.wrap ((a0.length : Int) - 1)).toNat default).L).getD 2 default)), .d (.int .i64 (((a0.getD (IntKind.i64.wrap ((a0.length : Int) - 1)).toNat default).L).getD 3 default)), .d (.int .i64 (((a0.getD (IntKind.i64.wrap ((a0.length : Int) - 1)).toNat default).L).getD 4 default)), .d (.int .i64 (((a0.getD (IntKind.i64.wrap ((a0.length : Int) - 1)).toNat default).L).getD 5 default)), .d (.int .i64 (((a0.getD (IntKind.i64.wrap ((a0.length : Int) - 1)).toNat default).L).getD 6 default)), .d (.int .i64 (((a0.getD (IntKind.i64.wrap ((a0.length : Int) - 1)).toNat default).L).getD 7 default)), .d (.int .i64 ((aset 16 ((a0.getD (IntKind.i64.wrap ((a0.length : Int) - 1)).toNat default).S) ((a0.getD (IntKind.i64.wrap ((a0.length : Int) - 1)).toNat default).N).toNat x4_3_1).getD 0 default)), .d (.int .i64 ((aset 16 ((a0.getD (IntKind.i64.wrap ((a0.length : Int) - 1)).toNat default).S) ((a0.getD (IntKind.i64.wrap ((a0.length : Int) - 1)).toNat default).N).toNat x4_3_1).getD 1 default)), .d (.int .i64 ((aset 16 ((a0.getD (IntKind.i64.wrap ((a0.length : Int) - 1)).toNat default).S) ((a0.getD (IntKind.i64.wrap ((a0.length : Int) - 1)).toNat default).N).toNat x4_3_1).getD 2 default)), .d (.int .i64 ((aset 16 ((a0.getD (IntKind.i64.wrap ((a0.length : Int) - 1)).toNat default).S) ((a0.getD (IntKind.i64.wrap ((a0.length : Int) - 1)).toNat default).N).toNat x4_3_1).getD 3 default)), .d (.int .i64 ((aset 16 ((a0.getD (IntKind.i64.wrap ((a0.length : Int) - 1)).toNat default).S) ((a0.getD (IntKind.i64.wrap ((a0.length : Int) - 1)).toNat default).N).toNat x4_3_1).getD 4 default)), .d (.int .i64 ((aset 16 ((a0.getD (IntKind.i64.wrap ((a0.length : Int) - 1)).toNat default).S) ((a0.getD (IntKind.i64.wrap ((a0.length : Int) - 1)).toNat default).N).toNat x4_3_1).getD 5 default)), .d (.int .i64 ((aset 16 ((a0.getD (IntKind.i64.wrap ((a0.length : Int) - 1)).toNat default).S) ((a0.getD (IntKind.i64.wrap ((a0.length : Int) - 1)).toNat default).N).toNat x4_3_1).getD 6 default)), .d (.int .i64 ((aset 16 ((a0.getD (IntKind.i64.wrap ((a0.length : Int) - 1)).toNat default).S) ((a0.getD (IntKind.i64.wrap ((a0.length : Int) - 1)).toNat default).N).toNat x4_3_1).getD 7 default)), .d (.int .i64 ((aset 16 ((a0.getD (IntKind.i64.wrap ((a0.length : Int) - 1)).toNat default).S) ((a0.getD (IntKind.i64.wrap ((a0.length : Int) - 1)).toNat default).N).toNat x4_3_1).getD 8 default)), .d (.int .i64 ((aset 16 ((a0.getD (IntKind.i64.wrap ((a0.length : Int) - 1)).toNat default).S) ((a0.getD (IntKind.i64.wrap ((a0.length : Int) - 1)).toNat default).N).toNat x4_3_1).getD 9 default)), .d (.int .i64 ((aset 16 ((a0.getD (IntKind.i64.wrap ((a0.length : Int) - 1)).toNat default).S) ((a0.getD (IntKind.i64.wrap ((a0.length : Int) - 1)).toNat default).N).toNat x4_3_1).getD 10 default)), .d (.int .i64 ((aset 16 ((a0.getD (IntKind.i64.wrap ((a0.length : Int) - 1)).toNat default).S) ((a0.getD (IntKind.i64.wrap ((a0.length : Int) - 1)).toNat default).N).toNat x4_3_1).getD 11 default)), .d (.int .i64 ((aset 16 ((a0.getD (IntKind.i64.wrap ((a0.length : Int) - 1)).toNat default).S) ((a0.getD (IntKind.i64.wrap ((a0.length : Int) - 1)).toNat default).N).toNat x4_3_1).getD 12 default)), .d (.int .i64 ((aset 16 ((a0.getD (IntKind.i64.wrap ((a0.length : Int) - 1)).toNat default).S) ((a0.getD (IntKind.i64.wrap ((a0.length : Int) - 1)).toNat default).N).toNat x4_3_1).getD 13 default)), .d (.int .i64 ((aset 16 ((a0.getD (IntKind.i64.wrap ((a0.length : Int) - 1)).toNat default).S) ((a0.getD (IntKind.i64.wrap ((a0.length : Int) - 1)).toNat default).N).toNat x4_3_1).getD 14 default)), .d (.int .i64 ((aset 16 ((a0.getD (IntKind.i64.wrap ((a0.length : Int) - 1)).toNat default).S) ((a0.getD (IntKind.i64.wrap ((a0.length : Int) - 1)).toNat default).N).toNat x4_3_1).getD 15 default))]) rfl rfl rfl rfl rfl (by kernel_rfl) rfl rfl (nIn_ok g4_8_1) rfl rfl rfl) rfl rfl rfl ?_
        refine WH.run 1 tt_ok rfl rfl rfl rfl trivial ?_
        refine WH.eff 0 tt_ok et_ok rfl rfl rfl rfl trivial rfl rfl ?_
        exact WH.nilF rfl (LessW.mk' ⟨AVle.of rfl, AVle.of rfl, trivial⟩ ⟨rfl, trivial⟩)
    · refine WH.call [] rfl (ref03_Low_0 _ hx4_3_1) ref03_Low_f rfl rfl trivial rfl rfl rfl rfl rfl ?_
      refine WH.fork ?_ ?_
      · refine WH.val tt_ok rfl rfl rfl rfl rfl trivial rfl rfl ?_
        refine WH.val tt_ok rfl rfl rfl rfl rfl trivial rfl rfl ?_
        refine WH.run 1 tt_ok rfl rfl rfl rfl trivial ?_
        refine WH.yv rfl (LJ.Y.idxPtrA 16 ((a0.getD (IntKind.i64.wrap ((a0.length : Int) - 1)).toNat default).N) (by kernel_rfl) rfl rfl rfl (nIn_ok g4_8_1)) rfl rfl rfl ?_
        refine WH.step rfl (WO.storePtrA 16 11 (fun x : Int => DV.int .i64 x) ((a0.getD (IntKind.i64.wrap ((a0.length : Int) - 1)).toNat default).S) x4_3_1 ((a0.getD (IntKind.i64.wrap ((a0.length : Int) - 1)).toNat default).N) (cs' := [.d (.int .i64 ((a0.getD (IntKind.i64.wrap ((a0.length : Int) - 1)).toNat default).Fn)), .d (.int .i64 ((a0.getD (IntKind.i64.wrap ((a0.length : Int) - 1)).toNat default).Pc)), .d (.int .i64 ((a0.getD (IntKind.i64.wrap ((a0.length : Int) - 1)).toNat default).N)), .d (.int .i64 (((a0.getD (IntKind.i64.wrap ((a0.length : Int) - 1)).toNat default).L).getD 0 default)), .d (.int .i64 (((a0.getD (IntKind.i64.wrap ((a0.length : Int) - 1)).toNat default).L).getD 1 default)), .d (.int .i64 (((a0.getD (IntKind.i64.wrap ((a0.length : Int) - 1)).toNat default).L).getD 2 default)), .d (.int .i64 (((a0.getD (IntKind.i64.wrap ((a0.length : Int) - 1)).toNat default).L).getD 3 default)), .d (.int .i64 (((a0.getD (IntKind.i64.wrap ((a0.length : Int) - 1)).toNat default).L).getD 4 default)), .d (.int .i64 (((a0.getD (IntKind.i64.wrap ((a0.length : Int) - 1)).toNat default).L).getD 5 default)), .d (.int .i64 (((a0.getD (IntKind.i64.wrap ((a0.length : Int) - 1)).toNat default).L).getD 6 default)), .d (.int .i64 (((a0.getD (IntKind.i64.wrap ((a0.length : Int) - 1)).toNat default).L).getD 7 default)), .d (.int .i64 ((aset 16 ((a0.getD (IntKind.i64.wrap ((a0.length : Int) - 1)).toNat default).S) ((a0.getD (IntKind.i64.wrap ((a0.length : Int) - 1)).toNat default).N).toNat x4_3_1).getD 0 default)), .d (.int .i64 ((aset 16 ((a0.getD (IntKind.i64.wrap ((a0.length : Int) - 1)).toNat default).S) ((a0.getD (IntKind.i64.wrap ((a0.length : Int) - 1)).toNat default).N).toNat x4_3_1).getD 1 default)), .d (.int .i64 ((aset 16 ((a0.getD (IntKind.i64.wrap ((a0.length : Int) - 1)).toNat default).S) ((a0.getD (IntKind.i64.wrap ((a0.length : Int) - 1)).toNat default).N).toNat x4_3_1).getD 2 default)), .d (.int .i64 ((aset 16 ((a0.getD (IntKind.i64.wrap ((a0.length : Int) - 1)).toNat default).S) ((a0.getD (IntKind.i64.wrap ((a0.length : Int) - 1)).toNat default).N).toNat x4_3_1).getD 3 default)), .d (.int .i64 ((aset 16 ((a0.getD (IntKind.i64.wrap ((a0.length : Int) - 1)).toNat default).S) ((a0.getD (IntKind.i64.wrap ((a0.length : Int) - 1)).toNat default).N).toNat x4_3_1).getD 4 default)), .d (.int .i64 ((aset 16 ((a0.getD (IntKind.i64.wrap ((a0.length : Int) - 1)).toNat default).S) ((a0.getD (IntKind.i64.wrap ((a0.length : Int) - 1)).toNat default).N).toNat x4_3_1).getD 5 default)), .d (.int .i64 ((aset 16 ((a0.getD (IntKind.i64.wrap ((a0.length : Int) - 1)).toNat default).S) ((a0.getD (IntKind.i64.wrap ((a0.length : Int) - 1)).toNat default).N).toNat x4_3_1).getD 6 default)), .d (.int .i64 ((aset 16 ((a0.getD (IntKind.i64.wrap ((a0.length : Int) - 1)).toNat default).S) ((a0.getD (IntKind.i64.wrap ((a0.length : Int) - 1)).toNat default).N).toNat x4_3_1).getD 7 default)), .d (.int .i64 ((aset 16 ((a0.getD (IntKind.i64.wrap ((a0.length : Int) - 1)).toNat default).S) ((a0.getD (IntKind.i64.wrap ((a0.length : Int) - 1)).toNat default).N).toNat x4_3_1).getD 8 default)), .d (.int .i64 ((aset 16 ((a0.getD (IntKind.i64.wrap ((a0.length : Int) - 1)).toNat default).S) ((a0.getD (IntKind.i64.wrap ((a0.length : Int) - 1)).toNat default).N).toNat x4_3_1).getD 9 default)), .d (.int .i64 ((aset 16 ((a0.getD (IntKind.i64.wrap ((a0.length : Int) - 1)).toNat default).S) ((a0.getD (IntKind.i64.wrap ((a0.length : Int) - 1)).toNat default).N).toNat x4_3_1).getD 10 default)), .d (.int .i64 ((aset 16 ((a0.getD (IntKind.i64.wrap ((a0.length : Int) - 1)).toNat default).S) ((a0.getD (IntKind.i64.wrap ((a0.length : Int) - 1)).toNat default).N).toNat x4_3_1).getD 11 default)), .d (.int .i64 ((aset 16 ((a0.getD (IntKind.i64.wrap ((a0.length : Int) - 1)).toNat default).S) ((a0.getD (IntKind.i64.wrap ((a0.length : Int) - 1)).toNat default).N).toNat x4_3_1).getD 12 default)), .d (.int .i64 ((aset 16 ((a0.getD (IntKind.i64.wrap ((a0.length : Int) - 1)).toNat default).S) ((a0.getD (IntKind.i64.wrap ((a0.length : Int) - 1)).toNat default).N).toNat x4_3_1).getD 13 default)), .d (.int .i64 ((aset 16 ((a0.getD (IntKind.i64.wrap ((a0.length : Int) - 1)).toNat default).S) ((a0.getD (IntKind.i64.wrap ((a0.length : Int) - 1)).toNat default).N).toNat x4_3_1).getD 14 default)), .d (.int .i64 ((aset 16 ((a0.getD (IntKind.i64.wrap ((a0.length : Int) - 1)).toNat default).S) ((a0.getD (IntKind.i64.wrap ((a0.length : Int) - 1)).toNat default).N).toNat x4_3_1).getD 15 default))]) rfl rfl rfl rfl rfl (by kernel_rfl) rfl rfl (nIn_ok g4_8_1) rfl rfl rfl) rfl rfl rfl ?_
        refine WH.run 1 tt_ok rfl rfl rfl rfl trivial ?_
        refine WH.eff 0 tt_ok et_ok rfl rfl rfl rfl trivial rfl rfl ?_
        exact WH.nilF rfl (LessW.mk' ⟨AVle.of rfl, AVle.of rfl, trivial⟩ ⟨rfl, trivial⟩)
      · refine WH.val tt_ok rfl rfl rfl rfl rfl trivial rfl rfl ?_
        refine WH.run 1 tt_ok rfl rfl rfl rfl trivial ?_
        refine WH.val tt_ok rfl rfl rfl rfl rfl trivial rfl rfl ?_
        refine WH.yv rfl (LJ.Y.idxPtrA 16 ((a0.getD (IntKind.i64.wrap ((a0.length : Int) - 1)).toNat default).N) (by kernel_rfl) rfl rfl rfl (nIn_ok g4_8_1)) rfl rfl rfl ?_
        refine WH.step rfl (WO.storePtrA 16 11 (fun x : Int => DV.int .i64 x) ((a0.getD (IntKind.i64.wrap ((a0.length : Int) - 1)).toNat default).S) x4_3_1 ((a0.getD (IntKind.i64.wrap ((a0.length : Int) - 1)).toNat default).N) (cs' := [.d (.int .i64 ((a0.getD (IntKind.i64.wrap ((a0.length : Int) - 1)).toNat default).Fn)), .d (.int .i64 ((a0.getD (IntKind.i64.wrap ((a0.length : Int) - 1)).toNat default).Pc)), .d (.int .i64 ((a0.getD (IntKind.i64.wrap ((a0.length : Int) - 1)).toNat default).N)), .d (.int .i64 (((a0.getD (IntKind.i64.wrap ((a0.length : Int) - 1)).toNat default).L).getD 0 default)), .d (.int .i64 (((a0.getD (IntKind.i64.wrap ((a0.length : Int) - 1)).toNat default).L).getD 1 default)), .d (.int .i64 (((a0.getD (IntKind.i64.wrap ((a0.length : Int) - 1)).toNat default).L).getD 2 default)), .d (.int .i64 (((a0.getD (IntKind.i64.wrap ((a0.length : Int) - 1)).toNat default).L).getD 3 default)), .d (.int .i64 (((a0.getD (IntKind.i64.wrap ((a0.length : Int) - 1)).toNat default).L).getD 4 default)), .d (.int .i64 (((a0.getD (IntKind.i64.wrap ((a0.length : Int) - 1)).toNat default).L).getD 5 default)), .d (.int .i64 (((a0.getD (IntKind.i64.wrap ((a0.length : Int) - 1)).toNat default).L).getD 6 default)), .d (.int .i64 (((a0.getD (IntKind.i64.wrap ((a0.length : Int) - 1)).toNat default).L).getD 7 default)), .d (.int .i64 ((aset 16 ((a0.getD (IntKind.i64.wrap ((a0.length : Int) - 1)).toNat default).S) ((a0.getD (IntKind.i64.wrap ((a0.length : Int) - 1)).toNat default).N).toNat x4_3_1).getD 0 default)), .d (.int .i64 ((aset 16 ((a0.getD (IntKind.i64.wrap ((a0.length : Int) - 1)).toNat default).S) ((a0.getD (IntKind.i64.wrap ((a0.length : Int) - 1)).toNat default).N).toNat x4_3_1).getD 1 default)), .d (.int .i64 ((aset 16 ((a0.getD (IntKind.i64.wrap ((a0.length : Int) - 1)).toNat default).S) ((a0.getD (IntKind.i64.wrap ((a0.length : Int) - 1)).toNat default).N).toNat x4_3_1).getD 2 default)), .d (.int .i64 ((aset 16 ((a0.getD (IntKind.i64.wrap ((a0.length : Int) - 1)).toNat default).S) ((a0.getD (IntKind.i64.wrap ((a0.length : Int) - 1)).toNat default).N).toNat x4_3_1).getD 3 default)), .d (.int .i64 ((aset 16 ((a0.getD (IntKind.i64.wrap ((a0.length : Int) - 1)).toNat default).S) ((a0.getD (IntKind.i64.wrap ((a0.length : Int) - 1)).toNat default).N).toNat x4_3_1).getD 4 default)), .d (.int .i64 ((aset 16 ((a0.getD (IntKind.i64.wrap ((a0.length : Int) - 1)).toNat default).S) ((a0.getD (IntKind.i64.wrap ((a0.length : Int) - 1)).toNat default).N).toNat x4_3_1).getD 5 default)), .d (.int .i64 ((aset 16 ((a0.getD (IntKind.i64.wrap ((a0.length : Int) - 1)).toNat default).S) ((a0.getD (IntKind.i64.wrap ((a0.length : Int) - 1)).toNat default).N).toNat x4_3_1).getD 6 default)), .d (.int .i64 ((aset 16 ((a0.getD (IntKind.i64.wrap ((a0.length : Int) - 1)).toNat default).S) ((a0.getD (IntKind.i64.wrap ((a0.length : Int) - 1)).toNat default).N).toNat x4_3_1).getD 7 default)), .d (.int .i64 ((aset 16 ((a0.getD (IntKind.i64.wrap ((a0.length : Int) - 1)).toNat default).S) ((a0.getD (IntKind.i64.wrap ((a0.length : Int) - 1)).toNat default).N).toNat x4_3_1).getD 8 default)), .d (.int .i64 ((aset 16 ((a0.getD (IntKind.i64.wrap ((a0.length : Int) - 1)).toNat default).S) ((a0.getD (IntKind.i64.wrap ((a0.length : Int) - 1)).toNat default).N).toNat x4_3_1).getD 9 default)), .d (.int .i64 ((aset 16 ((a0.getD (IntKind.i64.wrap ((a0.length : Int) - 1)).toNat default).S) ((a0.getD (IntKind.i64.wrap ((a0.length : Int) - 1)).toNat default).N).toNat x4_3_1).getD 10 default)), .d (.int .i64 ((aset 16 ((a0.getD (IntKind.i64.wrap ((a0.length : Int) - 1)).toNat default).S) ((a0.getD (IntKind.i64.wrap ((a0.length : Int) - 1)).toNat default).N).toNat x4_3_1).getD 11 default)), .d (.int .i64 ((aset 16 ((a0.getD (IntKind.i64.wrap ((a0.length : Int) - 1)).toNat default).S) ((a0.getD (IntKind.i64.wrap ((a0.length : Int) - 1)).toNat default).N).toNat x4_3_1).getD 12 default)), .d (.int .i64 ((aset 16 ((a0.getD (IntKind.i64.wrap ((a0.length : Int) - 1)).toNat default).S) ((a0.getD (IntKind.i64.wrap ((a0.length : Int) - 1)).toNat default).N).toNat x4_3_1).getD 13 default)), .d (.int .i64 ((aset 16 ((a0.getD (IntKind.i64.wrap ((a0.length : Int) - 1)).toNat default).S) ((a0.getD (IntKind.i64.wrap ((a0.length : Int) - 1)).toNat default).N).toNat x4_3_1).getD 14 default)), .d (.int .i64 ((aset 16 ((a0.getD (IntKind.i64.wrap ((a0.length : Int) - 1)).toNat default).S) ((a0.getD (IntKind.i64.wrap ((a0.length : Int) - 1)).toNat default).N).toNat x4_3_1).getD 15 default))]) rfl rfl rfl rfl rfl (by kernel_rfl) rfl rfl (nIn_ok g4_8_1) rfl rfl rfl) rfl rfl rfl ?_
        refine WH.run 1 tt_ok rfl rfl rfl rfl trivial ?_
        refine WH.eff 0 tt_ok et_ok rfl rfl rfl rfl trivial rfl rfl ?_
        exact WH.nilF rfl (LessW.mk' ⟨AVle.of rfl, AVle.of rfl, trivial⟩ ⟨rfl, trivial⟩)
    · refine WH.val tt_ok rfl rfl rfl rfl rfl trivial rfl rfl ?_
      refine WH.run 1 tt_ok rfl rfl rfl rfl trivial ?_
      refine WH.fork ?_ ?_
      · refine WH.val tt_ok rfl rfl rfl rfl rfl trivial rfl rfl ?_
        refine WH.call [] rfl (ref03_Low_0 _ hx4_3_1) ref03_Low_f rfl rfl trivial rfl rfl rfl rfl rfl ?_
        refine WH.yv rfl (LJ.Y.idxPtrA 16 ((a0.getD (IntKind.i64.wrap ((a0.length : Int) - 1)).toNat default).N) (by kernel_rfl) rfl rfl rfl (nIn_ok g4_8_1)) rfl rfl rfl ?_
        refine WH.step rfl (WO.storePtrA 16 11 (fun x : Int => DV.int .i64 x) ((a0.getD (IntKind.i64.wrap ((a0.length : Int) - 1)).toNat default).S) x4_3_1 ((a0.getD (IntKind.i64.wrap ((a0.length : Int) - 1)).toNat default).N) (cs' := [.d (.int .i64 ((a0.getD (IntKind.i64.wrap ((a0.length : Int) - 1)).toNat default).Fn)), .d (.int .i64 ((a0.getD (IntKind.i64.wrap ((a0.length : Int) - 1)).toNat default).Pc)), .d (.int .i64 ((a0.getD (IntKind.i64.wrap ((a0.length : Int) - 1)).toNat default).N)), .d (.int .i64 (((a0.getD (IntKind.i64.wrap ((a0.length : Int) - 1)).toNat default).L).getD 0 default)), .d (.int .i64 (((a0.getD (IntKind.i64.wrap ((a0.length : Int) - 1)).toNat default).L).getD 1 default)), .d (.int .i64 (((a0.getD (IntKind.i64.wrap ((a0.length : Int) - 1)).toNat default).L).getD 2 default)), .d (.int .i64 (((a0.getD (IntKind.i64.wrap ((a0.length : Int) - 1)).toNat default).L).getD 3 default)), .d (.int .i64 (((a0.getD (IntKind.i64.wrap ((a0.length : Int) - 1)).toNat default).L).getD 4 default)), .d (.int .i64 (((a0.getD (IntKind.i64.wrap ((a0.length : Int) - 1)).toNat default).L).getD 5 default)), .d (.int .i64 (((a0.getD (IntKind.i64.wrap ((a0.length : Int) - 1)).toNat default).L).getD 6 default)), .d (.int .i64 (((a0.getD (IntKind.i64.wrap ((a0.length : Int) - 1)).toNat default).L).getD 7 default)), .d (.int .i64 ((aset 16 ((a0.getD (IntKind.i64.wrap ((a0.length : Int) - 1)).toNat default).S) ((a0.getD (IntKind.i64.wrap ((a0.length : Int) - 1)).toNat default).N).toNat x4_3_1).getD 0 default)), .d (.int .i64 ((aset 16 ((a0.getD (IntKind.i64.wrap ((a0.length : Int) - 1)).toNat default).S) ((a0.getD (IntKind.i64.wrap ((a0.length : Int) - 1)).toNat default).N).toNat x4_3_1).getD 1 default)), .d (.int .i64 ((aset 16 ((a0.getD (IntKind.i64.wrap ((a0.length : Int) - 1)).toNat default).S) ((a0.getD (IntKind.i64.wrap ((a0.length : Int) - 1)).toNat default).N).toNat x4_3_1).getD 2 default)), .d (.int .i64 ((aset 16 ((a0.getD (IntKind.i64.wrap ((a0.length : Int) - 1)).toNat default).S) ((a0.getD (IntKind.i64.wrap ((a0.length : Int) - 1)).toNat default).N).toNat x4_3_1).getD 3 default)), .d (.int .i64 ((aset 16 ((a0.getD (IntKind.i64.wrap ((a0.length : Int) - 1)).toNat default).S) ((a0.getD (IntKind.i64.wrap ((a0.length : Int) - 1)).toNat default).N).toNat x4_3_1).getD 4 default)), .d (.int .i64 ((aset 16 ((a0.getD (IntKind.i64.wrap ((a0.length : Int) - 1)).toNat default).S) ((a0.getD (IntKind.i64.wrap ((a0.length : Int) - 1)).toNat default).N).toNat x4_3_1).getD 5 default)), .d (.int .i64 ((aset 16 ((a0.getD (IntKind.i64.wrap ((a0.length : Int) - 1)).toNat default).S) ((a0.getD (IntKind.i64.wrap ((a0.length : Int) - 1)).toNat default).N).toNat x4_3_1).getD 6 default)), .d (.int .i64 ((aset 16 ((a0.getD (IntKind.i64.wrap ((a0.length : Int) - 1)).toNat default).S) ((a0.getD (IntKind.i64.wrap ((a0.length : Int) - 1)).toNat default).N).toNat x4_3_1).getD 7 default)), .d (.int .i64 ((aset 16 ((a0.getD (IntKind.i64.wrap ((a0.length : Int) - 1)).toNat default).S) ((a0.getD (IntKind.i64.wrap ((a0.length : Int) - 1)).toNat default).N).toNat x4_3_1).getD 8 default)), .d (.int .i64 ((aset 16 ((a0.getD (IntKind.i64.wrap ((a0.length : Int) - 1)).toNat default).S) ((a0.getD (IntKind.i64.wrap ((a0.length : Int) - 1)).toNat default).N).toNat x4_3_1).getD 9 default)), .d (.int .i64 ((aset 16 ((a0.getD (IntKind.i64.wrap ((a0.length : Int) - 1)).toNat default).S) ((a0.getD (IntKind.i64.wrap ((a0.length : Int) - 1)).toNat default).N).toNat x4_3_1).getD 10 default)), .d (.int .i64 ((aset 16 ((a0.getD (IntKind.i64.wrap ((a0.length : Int) - 1)).toNat default).S) ((a0.getD (IntKind.i64.wrap ((a0.length : Int) - 1)).toNat default).N).toNat x4_3_1).getD 11 default)), .d (.int .i64 ((aset 16 ((a0.getD (IntKind.i64.wrap ((a0.length : Int) - 1)).toNat default).S) ((a0.getD (IntKind.i64.wrap ((a0.length : Int) - 1)).toNat default).N).toNat x4_3_1).getD 12 default)), .d (.int .i64 ((aset 16 ((a0.getD (IntKind.i64.wrap ((a0.length : Int) - 1)).toNat default).S) ((a0.getD (IntKind.i64.wrap ((a0.length : Int) - 1)).toNat default).N).toNat x4_3_1).getD 13 default)), .d (.int .i64 ((aset 16 ((a0.getD (IntKind.i64.wrap ((a0.length : Int) - 1)).toNat default).S) ((a0.getD (IntKind.i64.wrap ((a0.length : Int) - 1)).toNat default).N).toNat x4_3_1).getD 14 default)), .d (.int .i64 ((aset 16 ((a0.getD (IntKind.i64.wrap ((a0.length : Int) - 1)).toNat default).S) ((a0.getD (IntKind.i64.wrap ((a0.length : Int) - 1)).toNat default).N).toNat x4_3_1).getD 15 default))]) rfl rfl rfl rfl rfl (by kernel_rfl) rfl rfl (nIn_ok g4_8_1) rfl rfl rfl) rfl rfl rfl ?_
        refine WH.run 1 tt_ok rfl rfl rfl rfl trivial ?_
        refine WH.eff 0 tt_ok et_ok rfl rfl rfl rfl trivial rfl rfl ?_
        exact WH.nilF rfl (LessW.mk' ⟨AVle.of rfl, AVle.of rfl, trivial⟩ ⟨rfl, trivial⟩)
      · refine WH.call [] rfl (ref03_Low_0 _ hx4_3_1) ref03_Low_f rfl rfl trivial rfl rfl rfl rfl rfl ?_
        refine WH.val tt_ok rfl rfl rfl rfl rfl trivial rfl rfl ?_
        refine WH.yv rfl (LJ.Y.idxPtrA 16 ((a0.getD (IntKind.i64.wrap ((a0.length : Int) - 1)).toNat default).N) (by kernel_rfl) rfl rfl rfl (nIn_ok g4_8_1)) rfl rfl rfl ?_
        refine WH.step rfl (WO.storePtrA 16 11 (fun x : Int => DV.int .i64 x) ((a0.getD (IntKind.i64.wrap ((a0.length : Int) - 1)).toNat default).S) x4_3_1 ((a0.getD (IntKind.i64.wrap ((a0.length : Int) - 1)).toNat default).N) (cs' := [.d (.int .i64 ((a0.getD (IntKind.i64.wrap ((a0.length : Int) - 1)).toNat default).Fn)), .d (.int .i64 ((a0.getD (IntKind.i64.wrap ((a0.length : Int) - 1)).toNat default).Pc)), .d (.int .i64 ((a0.getD (IntKind.i64.wrap ((a0.length : Int) - 1)).toNat default).N)), .d (.int .i64 (((a0.getD (IntKind.i64.wrap ((a0.length : Int) - 1)).toNat default).L).getD 0 default)), .d (.int .i64 (((a0.getD (IntKind.i64.wrap ((a0.length : Int) - 1)).toNat default).L).getD 1 default)), .d (.int .i64 (((a0.getD (IntKind.i64.wrap ((a0.length : Int) - 1)).toNat default).L).getD 2 default)), .d (.int .i64 (((a0.getD (IntKind.i64.wrap ((a0.length : Int) - 1)).toNat default).L).getD 3 default)), .d (.int .i64 (((a0.getD (IntKind.i64.wrap ((a0.length : Int) - 1)).toNat default).L).getD 4 default)), .d (.int .i64 (((a0.getD (IntKind.i64.wrap ((a0.length : Int) - 1)).toNat default).L).getD 5 default)), .d (.int .i64 (((a0.getD (IntKind.i64.wrap ((a0.length : Int) - 1)).toNat default).L).getD 6 default)), .d (.int .i64 (((a0.getD (IntKind.i64.wrap ((a0.length : Int) - 1)).toNat default).L).getD 7 default)), .d (.int .i64 ((aset 16 ((a0.getD (IntKind.i64.wrap ((a0.length : Int) - 1)).toNat default).S) ((a0.getD (IntKind.i64.wrap ((a0.length : Int) - 1)).toNat default).N).toNat x4_3_1).getD 0 default)), .d (.int .i64 ((aset 16 ((a0.getD (IntKind.i64.wrap ((a0.length : Int) - 1)).toNat default).S) ((a0.getD (IntKind.i64.wrap ((a0.length : Int) - 1)).toNat default).N).toNat x4_3_1).getD 1 default)), .d (.int .i64 ((aset 16 ((a0.getD (IntKind.i64.wrap ((a0.length : Int) - 1)).toNat default).S) ((a0.getD (IntKind.i64.wrap ((a0.length : Int) - 1)).toNat default).N).toNat x4_3_1).getD 2 default)), .d (.int .i64 ((aset 16 ((a0.getD (IntKind.i64.wrap ((a0.length : Int) - 1)).toNat default).S) ((a0.getD (IntKind.i64.wrap ((a0.length : Int) - 1)).toNat default).N).toNat x4_3_1).getD 3 default)), .d (.int .i64 ((aset 16 ((a0.getD (IntKind.i64.wrap ((a0.length : Int) - 1)).toNat default).S) ((a0.getD (IntKind.i64.wrap ((a0.length : Int) - 1)).toNat default).N).toNat x4_3_1).getD 4 default)), .d (.int .i64 ((aset 16 ((a0.getD (IntKind.i64.wrap ((a0.length : Int) - 1)).toNat default).S) ((a0.getD (IntKind.i64.wrap ((a0.length : Int) - 1)).toNat default).N).toNat x4_3_1).getD 5 default)), .d (.int .i64 ((aset 16 ((a0.getD (IntKind.i64.wrap ((a0.length : Int) - 1)).toNat default).S) ((a0.getD (IntKind.i64.wrap ((a0.length : Int) - 1)).toNat default).N).toNat x4_3_1).getD 6 default)), .d (.int .i64 ((aset 16 ((a0.getD (IntKind.i64.wrap ((a0.length : Int) - 1)).toNat default).S) ((a0.getD (IntKind.i64.wrap ((a0.length : Int) - 1)).toNat default).N).toNat x4_3_1).getD 7 default)), .d (.int .i64 ((aset 16 ((a0.getD (IntKind.i64.wrap ((a0.length : Int) - 1)).toNat default).S) ((a0.getD (IntKind.i64.wrap ((a0.length : Int) - 1)).toNat default).N).toNat x4_3_1).getD 8 default)), .d (.int .i64 ((aset 16 ((a0.getD (IntKind.i64.wrap ((a0.length : Int) - 1)).toNat default).S) ((a0.getD (IntKind.i64.wrap ((a0.length : Int) - 1)).toNat default).N).toNat x4_3_1).getD 9 default)), .d (.int .i64 ((aset 16 ((a0.getD (IntKind.i64.wrap ((a0.length : Int) - 1)).toNat default).S) ((a0.getD (IntKind.i64.wrap ((a0.length : Int) - 1)).toNat default).N).toNat x4_3_1).getD 10 default)), .d (.int .i64 ((aset 16 ((a0.getD (IntKind.i64.wrap ((a0.length : Int) - 1)).toNat default).S) ((a0.getD (IntKind.i64.wrap ((a0.length : Int) - 1)).toNat default).N).toNat x4_3_1).getD 11 default)), .d (.int .i64 ((aset 16 ((a0.getD (IntKind.i64.wrap ((a0.length : Int) - 1)).toNat default).S) ((a0.getD (IntKind.i64.wrap ((a0.length : Int) - 1)).toNat default).N).toNat x4_3_1).getD 12 default)), .d (.int .i64 ((aset 16 ((a0.getD (IntKind.i64.wrap ((a0.length : Int) - 1)).toNat default).S) ((a0.getD (IntKind.i64.wrap ((a0.length : Int) - 1)).toNat default).N).toNat x4_3_1).getD 13 default)), .d (.int .i64 ((aset 16 ((a0.getD (IntKind.i64.wrap ((a0.length : Int) - 1)).toNat default).S) ((a0.getD (IntKind.i64.wrap ((a0.length : Int) - 1)).toNat default).N).toNat x4_3_1).getD 14 default)), .d (.int .i64 ((aset 16 ((a0.getD (IntKind.i64.wrap ((a0.length : Int) - 1)).toNat default).S) ((a0.getD (IntKind.i64.wrap ((a0.length : Int) - 1)).toNat default).N).toNat x4_3_1).getD 15 default))]) rfl rfl rfl rfl rfl (by kernel_rfl) rfl rfl (nIn_ok g4_8_1) rfl rfl rfl) rfl rfl rfl ?_
        refine WH.run 1 tt_ok rfl rfl rfl rfl trivial ?_
        refine WH.eff 0 tt_ok et_ok rfl rfl rfl rfl trivial rfl rfl ?_
        exact WH.nilF rfl (LessW.mk' ⟨AVle.of rfl, AVle.of rfl, trivial⟩ ⟨rfl, trivial⟩)
  · refine QT.n ?_
    refine WC.seq ?_
    refine WC.region ?_
    refine WL.run 2 tt_ok sg0 rfl rfl trivial ?_
    obtain ⟨x5, hx5, H⟩ := of_bind H
    refine WL.call [2480] (ref14_with_s 2480 rfl _ _ hx5) ref14_with_f rfl rfl trivial rfl rfl rfl ?_
    refine WL.run 2 tt_ok sg0 rfl rfl trivial ?_
    refine WL.nil ?_
    refine QT.n ?_
    refine WC.freezeT 2480 enc_api_Frame x5 rfl rfl rfl rfl ?_
    refine WC.ret ?_
    cases H
    exact Ends.auto rfl rfl rfl trivial
theorem ref14_Push_f : hasFunc Try.prog 20 Try.f20 := ⟨Try.func20, rfl, by kernel_rfl⟩

/-! ### logjam/logjamref14.Pop -/
theorem ref14_Pop_0 (a0 : List T_api_Frame) (a1 : Int) {r : (List T_api_Frame) × (List Int) × Bool} (H : ref14_Pop a0 a1 = some r) : LJ.Spec Try.prog 21 [.d (slT enc_api_Frame a0), .d (.int .i64 a1)] [] (.tup [.own 0, .d (slT enc_i64 r.2.1), .d (.bool r.2.2)]) [(0, .row 45 27 (r.1.map enc_api_Frame))] := by
  refine LJ.Spec.code Try.func21 rfl 74 rfl rfl [] rfl fun w0 F0 S0 B0 => ?_
  unfold ref14_Pop at H
  refine WC.seq ?_
  refine WC.region ?_
  refine WL.run 3 tt_ok sg0 rfl rfl trivial ?_
  refine WL.nil ?_
  refine QT.n ?_
  refine WC.seq ?_
  refine WC.seq ?_
  refine WC.region ?_
  refine WL.run 4 tt_ok sg0 rfl rfl trivial ?_
  refine WL.sect 2 3 false tt_ok sg0 rfl rfl (fun _ => trivial) ?_
  refine WL.run 2 tt_ok sg0 rfl rfl ⟨by first | exact id | exact fun h => by rw [h]; rfl | simp_all, trivial⟩ ?_
  obtain ⟨g1, H⟩ := of_needS H
  refine WL.sect 9 7 false tt_ok sg0 rfl rfl (fun hb => ⟨⟨(nIn_ok (g1 hb)).1, (nIn_ok (g1 hb)).2, rfl⟩, trivial⟩) ?_
  refine WL.run 2 tt_ok sg0 rfl rfl ⟨by first | exact id | exact fun h => by rw [h]; rfl | simp_all, trivial⟩ ?_
  obtain ⟨g2, H⟩ := of_needS H
  refine WL.sect 8 18 false tt_ok sg0 rfl rfl (fun hb => ⟨⟨(nIn_ok (g2 hb)).1, (nIn_ok (g2 hb)).2, rfl⟩, trivial⟩) ?_
  refine WL.run 1 tt_ok sg0 rfl rfl ⟨by first | exact id | exact fun h => by rw [h]; rfl | simp_all, trivial⟩ ?_
  refine WL.nil ?_
  refine QT.n ?_
  refine WC.cond rfl (fun h3 => ?_) (fun h3 => ?_)
  · replace H := of_t H h3
    refine WC.seq ?_
    refine WC.region ?_
    refine WL.run 3 tt_ok sg0 rfl rfl trivial ?_
    refine WL.nil ?_
    refine QT.n ?_
    refine WC.nilrow (t := 4) 0 45 27 rfl rfl rfl ?_
    refine WC.row 0 (([] : List T_api_Frame).map enc_api_Frame) rfl rfl rfl ?_
    refine WC.nilT 5 enc_i64 rfl ?_
    refine WC.ret ?_
    refine QT.r ?_
    cases H
    exact Ends.auto rfl rfl rfl ⟨rfl, trivial⟩
  replace H := of_f H h3
  refine WC.skip ?_
  refine QT.n ?_
  refine WC.seq ?_
  refine WC.region ?_
  obtain ⟨g4, H⟩ := of_need H
  refine WL.run 6 tt_ok sg0 rfl rfl ⟨⟨(nIn_ok g4).1, (nIn_ok g4).2, rfl⟩, trivial⟩ ?_
  refine WL.eff 144 tt_ok et_ok eg0 rfl rfl rfl trivial ?_
  refine WL.alloc 107 tt_ok rfl rfl rfl ?_
  refine WL.eff 0 tt_ok et_ok eg0 rfl rfl rfl trivial ?_
  refine WL.run 1 tt_ok sg0 rfl rfl trivial ?_
  refine WL.nil ?_
  refine QT.n ?_
  refine WC.seq ?_
  refine WC.seq ?_
  refine WC.region ?_
  refine WL.run 5 tt_ok sg0 rfl rfl trivial ?_
  refine WL.nil ?_
  refine QT.n ?_
  refine WC.block ?_
  refine WC.loop (ι := {x : Nat × (Int × (List Int) × (List Int)) // ref14_Pop_l6 a0 a1 x.1 x.2 = some r}) (fun x => [(0, .d (slT enc_api_Frame a0)), (1, .d (.int .i64 a1)), (7, .ptr 107 0), (8, .own 144), (9, .d (.int .i64 x.1.2.1))]) (fun x => [(107, .box 45 [.d (.int .i64 ((a0.getD (IntKind.i64.wrap ((a0.length : Int) - 1)).toNat default).Fn)), .d (.int .i64 ((a0.getD (IntKind.i64.wrap ((a0.length : Int) - 1)).toNat default).Pc)), .d (.int .i64 ((a0.getD (IntKind.i64.wrap ((a0.length : Int) - 1)).toNat default).N)), .d (.int .i64 (((a0.getD (IntKind.i64.wrap ((a0.length : Int) - 1)).toNat default).L).getD 0 default)), .d (.int .i64 (((a0.getD (IntKind.i64.wrap ((a0.length : Int) - 1)).toNat default).L).getD 1 default)), .d (.int .i64 (((a0.getD (IntKind.i64.wrap ((a0.length : Int) - 1)).toNat default).L).getD 2 default)), .d (.int .i64 (((a0.getD (IntKind.i64.wrap ((a0.length : Int) - 1)).toNat default).L).getD 3 default)), .d (.int .i64 (((a0.getD (IntKind.i64.wrap ((a0.length : Int) - 1)).toNat default).L).getD 4 default)), .d (.int .i64 (((a0.getD (IntKind.i64.wrap ((a0.length : Int) - 1)).toNat default).L).getD 5 default)), .d (.int .i64 (((a0.getD (IntKind.i64.wrap ((a0.length : Int) - 1)).toNat default).L).getD 6 default)), .d (.int .i64 (((a0.getD (IntKind.i64.wrap ((a0.length : Int) - 1)).toNat default).L).getD 7 default)), .d (.int .i64 (x.1.2.2.1.getD 0 default)), .d (.int .i64 (x.1.2.2.1.getD 1 default)), .d (.int .i64 (x.1.2.2.1.getD 2 default)), .d (.int .i64 (x.1.2.2.1.getD 3 default)), .d (.int .i64 (x.1.2.2.1.getD 4 default)), .d (.int .i64 (x.1.2.2.1.getD 5 default)), .d (.int .i64 (x.1.2.2.1.getD 6 default)), .d (.int .i64 (x.1.2.2.1.getD 7 default)), .d (.int .i64 (x.1.2.2.1.getD 8 default)), .d (.int .i64 (x.1.2.2.1.getD 9 default)), .d (.int .i64 (x.1.2.2.1.getD 10 default)), .d (.int .i64 (x.1.2.2.1.getD 11 default)), .d (.int .i64 (x.1.2.2.1.getD 12 default)), .d (.int .i64 (x.1.2.2.1.getD 13 default)), .d (.int .i64 (x.1.2.2.1.getD 14 default)), .d (.int .i64 (x.1.2.2.1.getD 15 default))]), (144, .row 3 1 (x.1.2.2.2.map enc_i64))]) (fun x => x.1.1) ⟨(fuel, (IntKind.i64.wrap (((a0.getD (IntKind.i64.wrap ((a0.length : Int) - 1)).toNat default).N) - a1), ((a0.getD (IntKind.i64.wrap ((a0.length : Int) - 1)).toNat default).S), ([] : List Int))), H⟩ (Less.mk' ⟨rfl, rfl, rfl, rfl, rfl, trivial⟩ ⟨rfl, rfl, trivial⟩) fun x => ?_
  obtain ⟨⟨k6, s5⟩, H⟩ := x
  rcases k6 with _ | k6
  · exact of_none H
  rw [ref14_Pop_l6] at H
  refine WC.seq ?_
  refine WC.seq ?_
  refine WC.region ?_
  refine WL.run 4 tt_ok sg0 rfl rfl trivial ?_
  refine WL.nil ?_
  refine QT.n ?_
  refine WC.cond rfl (fun h7 => ?_) (fun h7 => ?_)
  · replace H := of_t H h7
    refine WC.skip ?_
    refine QT.n ?_
    refine WC.seq ?_
    refine WC.block ?_
    refine WC.region ?_
    refine WL.run 4 tt_ok sg0 rfl rfl trivial ?_
    obtain ⟨g8, H⟩ := of_need H
    refine WL.yv (LJ.Y.idxPtrA 16 s5.1 (by kernel_rfl) rfl rfl rfl (nIn_ok g8)) rfl rfl rfl ?_
    refine WL.yv (LJ.Y.loadPtrA 16 11 (fun k => .int .i64 (s5.2.1.getD k default)) s5.1 rfl rfl rfl (by kernel_rfl) rfl (nIn_ok g8)) rfl rfl rfl ?_
    refine WL.eff 161 tt_ok et_ok eg0 rfl rfl rfl trivial ?_
    refine WL.freezeT 161 enc_i64 ([(s5.2.1.getD s5.1.toNat default)] : List Int) rfl rfl rfl rfl ?_
    obtain ⟨g9, H⟩ := of_need H
    refine WL.appT enc_i64 s5.2.2 ([(s5.2.1.getD s5.1.toNat default)] : List Int) tt_ok et_ok rfl rfl (fun _ => rfl) (fun _ => rfl) rfl rfl rfl rfl (nCap_ok g9) rfl rfl rfl rfl rfl ?_
    refine WL.run 2 tt_ok sg0 rfl rfl trivial ?_
    obtain ⟨g10, H⟩ := of_need H
    refine WL.yv (LJ.Y.idxPtrA 16 s5.1 (by kernel_rfl) rfl rfl rfl (nIn_ok g10)) rfl rfl rfl ?_
    refine WL.wo (WO.storePtrA 16 11 (fun x : Int => DV.int .i64 x) s5.2.1 (0 : Int) s5.1 (cs' := [.d (.int .i64 ((a0.getD (IntKind.i64.wrap ((a0.length : Int) - 1)).toNat default).Fn)), .d (.int .i64 ((a0.getD (IntKind.i64.wrap ((a0.length : Int) - 1)).toNat default).Pc)), .d (.int .i64 ((a0.getD (IntKind.i64.wrap ((a0.length : Int) - 1)).toNat default).N)), .d (.int .i64 (((a0.getD (IntKind.i64.wrap ((a0.length : Int) - 1)).toNat default).L).getD 0 default)), .d (.int .i64 (((a0.getD (IntKind.i64.wrap ((a0.length : Int) - 1)).toNat default).L).getD 1 default)), .d (.int .i64 (((a0.getD (IntKind.i64.wrap ((a0.length : Int) - 1)).toNat default).L).getD 2 default)), .d (.int .i64 (((a0.getD (IntKind.i64.wrap ((a0.length : Int) - 1)).toNat default).L).getD 3 default)), .d (.int .i64 (((a0.getD (IntKind.i64.wrap ((a0.length : Int) - 1)).toNat default).L).getD 4 default)), .d (.int .i64 (((a0.getD (IntKind.i64.wrap ((a0.length : Int) - 1)).toNat default).L).getD 5 default)), .d (.int .i64 (((a0.getD (IntKind.i64.wrap ((a0.length : Int) - 1)).toNat default).L).getD 6 default)), .d (.int .i64 (((a0.getD (IntKind.i64.wrap ((a0.length : Int) - 1)).toNat default).L).getD 7 default)), .d (.int .i64 ((aset 16 s5.2.1 s5.1.toNat (0 : Int)).getD 0 default)), .d (.int .i64 ((aset 16 s5.2.1 s5.1.toNat (0 : Int)).getD 1 default)), .d (.int .i64 ((aset 16 s5.2.1 s5.1.toNat (0 : Int)).getD 2 default)), .d (.int .i64 ((aset 16 s5.2.1 s5.1.toNat (0 : Int)).getD 3 default)), .d (.int .i64 ((aset 16 s5.2.1 s5.1.toNat (0 : Int)).getD 4 default)), .d (.int .i64 ((aset 16 s5.2.1 s5.1.toNat (0 : Int)).getD 5 default)), .d (.int .i64 ((aset 16 s5.2.1 s5.1.toNat (0 : Int)).getD 6 default)), .d (.int .i64 ((aset 16 s5.2.1 s5.1.toNat (0 : Int)).getD 7 default)), .d (.int .i64 ((aset 16 s5.2.1 s5.1.toNat (0 : Int)).getD 8 default)), .d (.int .i64 ((aset 16 s5.2.1 s5.1.toNat (0 : Int)).getD 9 default)), .d (.int .i64 ((aset 16 s5.2.1 s5.1.toNat (0 : Int)).getD 10 default)), .d (.int .i64 ((aset 16 s5.2.1 s5.1.toNat (0 : Int)).getD 11 default)), .d (.int .i64 ((aset 16 s5.2.1 s5.1.toNat (0 : Int)).getD 12 default)), .d (.int .i64 ((aset 16 s5.2.1 s5.1.toNat (0 : Int)).getD 13 default)), .d (.int .i64 ((aset 16 s5.2.1 s5.1.toNat (0 : Int)).getD 14 default)), .d (.int .i64 ((aset 16 s5.2.1 s5.1.toNat (0 : Int)).getD 15 default))]) rfl rfl rfl rfl rfl (by kernel_rfl) rfl rfl (nIn_ok g10) rfl rfl rfl) rfl ?_
    refine WL.nil ?_
    refine QB.n (QT.n ?_)
    refine WC.region ?_
    refine WL.run 3 tt_ok sg0 rfl rfl trivial ?_
    refine WL.nil ?_
    refine QT.n ?_
    exact ⟨⟨(k6, (IntKind.i64.wrap (s5.1 + 1), (aset 16 s5.2.1 s5.1.toNat (0 : Int)), s5.2.2 ++ ([(s5.2.1.getD s5.1.toNat default)] : List Int))), H⟩, Nat.lt_succ_self _, Less.mk' ⟨rfl, rfl, rfl, rfl, rfl, trivial⟩ ⟨rfl, rfl, trivial⟩⟩
  replace H := of_f H h7
  refine WC.exit ?_
  refine QT.x (QT.x (QB.hit (QT.n ?_)))
  refine WC.seq ?_
  refine WC.region ?_
  refine WL.run 5 tt_ok sg0 rfl rfl trivial ?_
  refine WL.eff 0 tt_ok et_ok eg0 rfl rfl rfl trivial ?_
  refine WL.nil ?_
  refine QT.n ?_
  refine WC.seq ?_
  refine WC.region ?_
  refine WL.run 2 tt_ok sg0 rfl rfl trivial ?_
  obtain ⟨x11, hx11, H⟩ := of_bind H
  refine WL.call [0] (ref14_with_s 0 rfl _ _ hx11) ref14_with_f rfl rfl trivial rfl rfl rfl ?_
  refine WL.run 4 tt_ok sg0 rfl rfl trivial ?_
  refine WL.nil ?_
  refine QT.n ?_
  refine WC.freezeT 144 enc_i64 s5.2.2 rfl rfl rfl rfl ?_
  refine WC.ret ?_
  cases H
  exact Ends.auto rfl rfl rfl ⟨rfl, trivial⟩
theorem ref14_Pop_s (n0 : Nat) (hn : nodupB [n0] = true) (a0 : List T_api_Frame) (a1 : Int) {r : (List T_api_Frame) × (List Int) × Bool} (H : ref14_Pop a0 a1 = some r) : LJ.Spec Try.prog 21 [.d (slT enc_api_Frame a0), .d (.int .i64 a1)] [] (.tup [.own n0, .d (slT enc_i64 r.2.1), .d (.bool r.2.2)]) [(n0, .row 45 27 (r.1.map enc_api_Frame))] :=
  Spec.names [n0] hn rfl rfl (ref14_Pop_0 a0 a1 H)
theorem ref14_Pop_f : hasFunc Try.prog 21 Try.f21 := ⟨Try.func21, rfl, by kernel_rfl⟩

/-! ### logjam/logjamref14.Turn -/
theorem ref14_Turn_0 (a0 : List T_api_Frame) (a1 : Int) {r : List T_api_Frame} (H : ref14_Turn a0 a1 = some r) : LJ.Spec Try.prog 22 [.d (slT enc_api_Frame a0), .d (.int .i64 a1)] [] (.d (slT enc_api_Frame r)) [] := by
  refine LJ.Spec.code Try.func22 rfl 26 rfl rfl [] rfl fun w0 F0 S0 B0 => ?_
  unfold ref14_Turn at H
  refine WC.seq ?_
  refine WC.region ?_
  refine WL.run 1 tt_ok sg0 rfl rfl trivial ?_
  refine WL.nil ?_
  refine QT.n ?_
  refine WC.seq ?_
  refine WC.region ?_
  refine WL.run 1 tt_ok sg0 rfl rfl trivial ?_
  obtain ⟨x1, hx1, H⟩ := of_bind H
  refine WL.call [2120] (ref14_Pop_s 2120 rfl _ _ hx1) ref14_Pop_f rfl rfl trivial rfl rfl rfl ?_
  refine WL.run 7 tt_ok sg0 rfl rfl trivial ?_
  refine WL.nil ?_
  refine QT.n ?_
  refine WC.seq ?_
  refine WC.seq ?_
  refine WC.region ?_
  refine WL.run 2 tt_ok sg0 rfl rfl trivial ?_
  refine WL.nil ?_
  refine QT.n ?_
  refine WC.cond rfl (fun h2 => ?_) (fun h2 => ?_)
  · replace H := of_t H h2
    refine WC.seq ?_
    refine WC.region ?_
    refine WL.run 2 tt_ok sg0 rfl rfl trivial ?_
    refine WL.nil ?_
    refine QT.n ?_
    refine WC.ret ?_
    refine QT.r ?_
    cases H
    exact Ends.auto rfl rfl rfl trivial
  replace H := of_f H h2
  refine WC.skip ?_
  refine QT.n ?_
  refine WC.seq ?_
  refine WC.region ?_
  refine WL.run 2 tt_ok sg0 rfl rfl trivial ?_
  refine WL.freezeT 2120 enc_api_Frame x1.1 rfl rfl rfl rfl ?_
  obtain ⟨x3, hx3, H⟩ := of_bind H
  refine WL.call [] (ref14_Push_0 _ _ hx3) ref14_Push_f rfl rfl trivial rfl rfl rfl ?_
  refine WL.run 5 tt_ok sg0 rfl rfl trivial ?_
  refine WL.nil ?_
  refine QT.n ?_
  refine WC.seq ?_
  refine WC.region ?_
  refine WL.run 2 tt_ok sg0 rfl rfl trivial ?_
  refine WL.nil ?_
  refine QT.n ?_
  refine WC.ret ?_
  cases H
  exact Ends.auto rfl rfl rfl trivial
theorem ref14_Turn_f : hasFunc Try.prog 22 Try.f22 := ⟨Try.func22, rfl, by kernel_rfl⟩

/-! ### logjam/logjamref14.Call -/
theorem ref14_Call_0 (a0 : List T_api_Frame) (a1 : Int) (a2 : Int) {r : (List T_api_Frame) × Bool} (H : ref14_Call a0 a1 a2 = some r) : LJ.Spec Try.prog 23 [.d (slT enc_api_Frame a0), .d (.int .i64 a1), .d (.int .i64 a2)] [] (.tup [.d (slT enc_api_Frame r.1), .d (.bool r.2)]) [] := by
  refine LJ.Spec.code Try.func23 rfl 34 rfl rfl [] rfl fun w0 F0 S0 B0 => ?_
  unfold ref14_Call at H
  refine WC.seq ?_
  refine WC.region ?_
  refine WL.run 2 tt_ok sg0 rfl rfl trivial ?_
  refine WL.nil ?_
  refine QT.n ?_
  refine WC.seq ?_
  refine WC.region ?_
  refine WL.run 2 tt_ok sg0 rfl rfl trivial ?_
  obtain ⟨x1, hx1, H⟩ := of_bind H
  refine WL.call [2140] (ref14_Pop_s 2140 rfl _ _ hx1) ref14_Pop_f rfl rfl trivial rfl rfl rfl ?_
  refine WL.run 7 tt_ok sg0 rfl rfl trivial ?_
  refine WL.nil ?_
  refine QT.n ?_
  refine WC.seq ?_
  refine WC.seq ?_
  refine WC.region ?_
  refine WL.run 3 tt_ok sg0 rfl rfl trivial ?_
  refine WL.sect 2 2 false tt_ok sg0 rfl rfl (fun _ => trivial) ?_
  refine WL.run 2 tt_ok sg0 rfl rfl ⟨by first | exact id | exact fun h => by rw [h]; rfl | simp_all, trivial⟩ ?_
  refine WL.sect 3 6 false tt_ok sg0 rfl rfl (fun _ => trivial) ?_
  refine WL.run 1 tt_ok sg0 rfl rfl ⟨by first | exact id | exact fun h => by rw [h]; rfl | simp_all, trivial⟩ ?_
  refine WL.nil ?_
  refine QT.n ?_
  refine WC.cond rfl (fun h2 => ?_) (fun h2 => ?_)
  · replace H := of_t H h2
    refine WC.seq ?_
    refine WC.region ?_
    refine WL.run 2 tt_ok sg0 rfl rfl trivial ?_
    refine WL.nil ?_
    refine QT.n ?_
    refine WC.nilT 6 enc_api_Frame rfl ?_
    refine WC.ret ?_
    refine QT.r ?_
    cases H
    exact Ends.auto rfl rfl rfl trivial
  replace H := of_f H h2
  refine WC.skip ?_
  refine QT.n ?_
  refine WC.seq ?_
  refine WC.region ?_
  refine WL.run 3 tt_ok sg0 rfl rfl trivial ?_
  obtain ⟨x3, hx3, H⟩ := of_bind H
  refine WL.call [] (ref14_New_0 _ _ hx3) ref14_New_f rfl rfl trivial rfl rfl rfl ?_
  obtain ⟨g4, H⟩ := of_need H
  refine WL.appT enc_api_Frame x1.1 x3 tt_ok et_ok rfl rfl (fun _ => rfl) (fun _ => rfl) rfl rfl rfl rfl (nCap_ok g4) rfl rfl rfl rfl rfl ?_
  refine WL.run 2 tt_ok sg0 rfl rfl trivial ?_
  refine WL.nil ?_
  refine QT.n ?_
  refine WC.freezeT 2140 enc_api_Frame (x1.1 ++ x3) rfl rfl rfl rfl ?_
  refine WC.ret ?_
  cases H
  exact Ends.auto rfl rfl rfl trivial
theorem ref14_Call_f : hasFunc Try.prog 23 Try.f23 := ⟨Try.func23, rfl, by kernel_rfl⟩

/-! ### logjam/logjamref14.Ret -/
theorem ref14_Ret_0 (a0 : List T_api_Frame) {r : (List T_api_Frame) × Int × Bool} (H : ref14_Ret a0 = some r) : LJ.Spec Try.prog 24 [.d (slT enc_api_Frame a0)] [] (.tup [.d (slT enc_api_Frame r.1), .d (.int .i64 r.2.1), .d (.bool r.2.2)]) [] := by
  refine LJ.Spec.code Try.func24 rfl 42 rfl rfl [] rfl fun w0 F0 S0 B0 => ?_
  unfold ref14_Ret at H
  refine WC.seq ?_
  refine WC.region ?_
  refine WL.run 3 tt_ok sg0 rfl rfl trivial ?_
  refine WL.nil ?_
  refine QT.n ?_
  refine WC.seq ?_
  refine WC.region ?_
  refine WL.run 1 tt_ok sg0 rfl rfl trivial ?_
  obtain ⟨x1, hx1, H⟩ := of_bind H
  refine WL.call [2120] (ref14_Pop_s 2120 rfl _ _ hx1) ref14_Pop_f rfl rfl trivial rfl rfl rfl ?_
  refine WL.run 7 tt_ok sg0 rfl rfl trivial ?_
  refine WL.nil ?_
  refine QT.n ?_
  refine WC.seq ?_
  refine WC.seq ?_
  refine WC.region ?_
  refine WL.run 2 tt_ok sg0 rfl rfl trivial ?_
  refine WL.nil ?_
  refine QT.n ?_
  refine WC.cond rfl (fun h2 => ?_) (fun h2 => ?_)
  · replace H := of_t H h2
    refine WC.seq ?_
    refine WC.region ?_
    refine WL.run 3 tt_ok sg0 rfl rfl trivial ?_
    refine WL.nil ?_
    refine QT.n ?_
    refine WC.nilT 2 enc_api_Frame rfl ?_
    refine WC.ret ?_
    refine QT.r ?_
    cases H
    exact Ends.auto rfl rfl rfl trivial
  replace H := of_f H h2
  refine WC.skip ?_
  refine QT.n ?_
  refine WC.seq ?_
  refine WC.seq ?_
  refine WC.region ?_
  refine WL.run 3 tt_ok sg0 rfl rfl trivial ?_
  refine WL.nil ?_
  refine QT.n ?_
  refine WC.cond rfl (fun h3 => ?_) (fun h3 => ?_)
  · replace H := of_t H h3
    refine WC.seq ?_
    refine WC.heldP (.one 0 true (.one 1 true (.one 2 true (.one 3 true (.one 4 true (.one 5 true .done)))))) [] [] rfl (by kernel_rfl) rfl (by kernel_rfl) rfl rfl (fun _ h => h) rfl rfl rfl (fun _ _ _ h => h) fun FK NK wK K => ?_
    obtain ⟨g4, H⟩ := of_need H
    refine WH.run 6 tt_ok rfl rfl rfl rfl ⟨⟨(nIn_ok g4).1, (nIn_ok g4).2, rfl⟩, trivial⟩ ?_
    refine WH.nil rfl ?_
    refine QT.n ?_
    refine WC.nilT 2 enc_api_Frame rfl ?_
    refine WC.ret ?_
    refine QT.r ?_
    cases H
    exact Ends.auto rfl rfl rfl trivial
  replace H := of_f H h3
  refine WC.skip ?_
  refine QT.n ?_
  refine WC.seq ?_
  obtain ⟨g6_4_1, H⟩ := of_need H
  obtain ⟨g6_6_1, H⟩ := of_need H
  obtain ⟨x6_8_1, hx6_8_1, H⟩ := of_bind H
  refine WC.heldF [(6, .d (slT enc_i64 x1.2.1)), (8, .d (slT enc_api_Frame x6_8_1.1)), (9, .d (.bool x6_8_1.2))] [] (.one 0 true (.one 1 true (.one 2 true (.one 3 true (.one 4 true (.one 5 true (.one 6 true (.one 7 true (.one 8 false (.one 9 true (.fork (.one 10 false (.one 12 true (.one 11 false (.one 13 true .done)))) (.one 11 false (.one 10 false (.one 12 true (.one 13 true .done))))))))))))))) [] [] rfl (by kernel_rfl) rfl (by kernel_rfl) rfl rfl (fun _ h => h) rfl rfl rfl (fun FK NK wK K => ?_) ?_
  · refine WH.run 4 tt_ok rfl rfl rfl rfl trivial ?_
    refine WH.yv rfl (LJ.Y.sliceT enc_api_Frame a0 tt_ok rfl (fun _ => rfl) none (some (.tmp 28)) (0 : Int) (IntKind.i64.wrap ((a0.length : Int) - 1)) rfl rfl ⟨_, rfl⟩ rfl rfl (nSl_ok g6_4_1)) rfl rfl rfl ?_
    refine WH.run 3 tt_ok rfl rfl rfl rfl ⟨⟨(nIn_ok g6_6_1).1, (nIn_ok g6_6_1).2, rfl⟩, trivial⟩ ?_
    refine WH.call [] rfl (ref14_Push_0 _ _ hx6_8_1) ref14_Push_f rfl rfl trivial rfl rfl rfl rfl rfl ?_
    refine WH.mv rfl rfl rfl rfl rfl rfl rfl rfl rfl ?_
    refine WH.fork ?_ ?_
    · refine WH.val tt_ok rfl rfl rfl rfl rfl trivial rfl rfl ?_
      refine WH.mv rfl rfl rfl rfl rfl rfl rfl rfl rfl ?_
      refine WH.val tt_ok rfl rfl rfl rfl rfl trivial rfl rfl ?_
      refine WH.run 1 tt_ok rfl rfl rfl rfl trivial ?_
      exact WH.nilF rfl (LessW.mk' ⟨AVle.of rfl, AVle.of rfl, AVle.of rfl, trivial⟩ trivial)
    · refine WH.val tt_ok rfl rfl rfl rfl rfl trivial rfl rfl ?_
      refine WH.val tt_ok rfl rfl rfl rfl rfl trivial rfl rfl ?_
      refine WH.mv rfl rfl rfl rfl rfl rfl rfl rfl rfl ?_
      refine WH.run 1 tt_ok rfl rfl rfl rfl trivial ?_
      exact WH.nilF rfl (LessW.mk' ⟨AVle.of rfl, AVle.of rfl, AVle.of rfl, trivial⟩ trivial)
  · refine QT.n ?_
    refine WC.seq ?_
    refine WC.seq ?_
    refine WC.region ?_
    refine WL.run 2 tt_ok sg0 rfl rfl trivial ?_
    refine WL.nil ?_
    refine QT.n ?_
    refine WC.cond rfl (fun h5 => ?_) (fun h5 => ?_)
    · replace H := of_t H h5
      refine WC.seq ?_
      refine WC.region ?_
      refine WL.run 3 tt_ok sg0 rfl rfl trivial ?_
      refine WL.nil ?_
      refine QT.n ?_
      refine WC.nilT 2 enc_api_Frame rfl ?_
      refine WC.ret ?_
      refine QT.r ?_
      cases H
      exact Ends.auto rfl rfl rfl trivial
    replace H := of_f H h5
    refine WC.skip ?_
    refine QT.n ?_
    refine WC.seq ?_
    refine WC.heldP (.one 0 true (.one 1 true (.one 2 true (.one 3 true (.one 4 true (.one 5 true (.one 6 true .done))))))) [] [] rfl (by kernel_rfl) rfl (by kernel_rfl) rfl rfl (fun _ h => h) rfl rfl rfl (fun _ _ _ h => h) fun FK NK wK K => ?_
    obtain ⟨g6, H⟩ := of_need H
    refine WH.run 7 tt_ok rfl rfl rfl rfl ⟨⟨(nIn_ok g6).1, (nIn_ok g6).2, rfl⟩, trivial⟩ ?_
    refine WH.nil rfl ?_
    refine QT.n ?_
    refine WC.ret ?_
    cases H
    exact Ends.auto rfl rfl rfl trivial
theorem ref14_Ret_f : hasFunc Try.prog 24 Try.f24 := ⟨Try.func24, rfl, by kernel_rfl⟩

/-! ### logjam/logjamref14.Store -/
theorem ref14_Store_0 (a0 : List T_api_Frame) (a1 : Int) (a2 : Int) {r : List T_api_Frame} (H : ref14_Store a0 a1 a2 = some r) : LJ.Spec Try.prog 25 [.d (slT enc_api_Frame a0), .d (.int .i64 a1), .d (.int .i64 a2)] [] (.d (slT enc_api_Frame r)) [] := by
  refine LJ.Spec.code Try.func25 rfl 34 rfl rfl [] rfl fun w0 F0 S0 B0 => ?_
  unfold ref14_Store at H
  refine WC.seq ?_
  refine WC.region ?_
  refine WL.run 1 tt_ok sg0 rfl rfl trivial ?_
  refine WL.nil ?_
  refine QT.n ?_
  refine WC.seq ?_
  refine WC.seq ?_
  refine WC.region ?_
  refine WL.run 4 tt_ok sg0 rfl rfl trivial ?_
  refine WL.sect 2 3 false tt_ok sg0 rfl rfl (fun _ => trivial) ?_
  refine WL.run 2 tt_ok sg0 rfl rfl ⟨by first | exact id | exact fun h => by rw [h]; rfl | simp_all, trivial⟩ ?_
  refine WL.sect 2 7 false tt_ok sg0 rfl rfl (fun _ => trivial) ?_
  refine WL.run 1 tt_ok sg0 rfl rfl ⟨by first | exact id | exact fun h => by rw [h]; rfl | simp_all, trivial⟩ ?_
  refine WL.nil ?_
  refine QT.n ?_
  refine WC.cond rfl (fun h1 => ?_) (fun h1 => ?_)
  · replace H := of_t H h1
    refine WC.seq ?_
    refine WC.region ?_
    refine WL.run 2 tt_ok sg0 rfl rfl trivial ?_
    refine WL.nil ?_
    refine QT.n ?_
    refine WC.ret ?_
    refine QT.r ?_
    cases H
    exact Ends.auto rfl rfl rfl trivial
  replace H := of_f H h1
  refine WC.skip ?_
  refine QT.n ?_
  refine WC.seq ?_
  refine WC.region ?_
  obtain ⟨g2, H⟩ := of_need H
  refine WL.run 6 tt_ok sg0 rfl rfl ⟨⟨(nIn_ok g2).1, (nIn_ok g2).2, rfl⟩, trivial⟩ ?_
  refine WL.alloc 107 tt_ok rfl rfl rfl ?_
  refine WL.eff 0 tt_ok et_ok eg0 rfl rfl rfl trivial ?_
  refine WL.nil ?_
  refine QT.n ?_
  refine WC.seq ?_
  refine WC.region ?_
  refine WL.run 2 tt_ok sg0 rfl rfl trivial ?_
  obtain ⟨x3, hx3, H⟩ := of_bind H
  refine WL.call [] (ref03_Low_0 _ hx3) ref03_Low_f rfl rfl trivial rfl rfl rfl ?_
  refine WL.run 1 tt_ok sg0 rfl rfl trivial ?_
  obtain ⟨g4, H⟩ := of_need H
  refine WL.yv (LJ.Y.idxPtrA 8 a1 (by kernel_rfl) rfl rfl rfl (nIn_ok g4)) rfl rfl rfl ?_
  refine WL.wo (WO.storePtrA 8 3 (fun x : Int => DV.int .i64 x) ((a0.getD (IntKind.i64.wrap ((a0.length : Int) - 1)).toNat default).L) x3 a1 (cs' := [.d (.int .i64 ((a0.getD (IntKind.i64.wrap ((a0.length : Int) - 1)).toNat default).Fn)), .d (.int .i64 ((a0.getD (IntKind.i64.wrap ((a0.length : Int) - 1)).toNat default).Pc)), .d (.int .i64 ((a0.getD (IntKind.i64.wrap ((a0.length : Int) - 1)).toNat default).N)), .d (.int .i64 ((aset 8 ((a0.getD (IntKind.i64.wrap ((a0.length : Int) - 1)).toNat default).L) a1.toNat x3).getD 0 default)), .d (.int .i64 ((aset 8 ((a0.getD (IntKind.i64.wrap ((a0.length : Int) - 1)).toNat default).L) a1.toNat x3).getD 1 default)), .d (.int .i64 ((aset 8 ((a0.getD (IntKind.i64.wrap ((a0.length : Int) - 1)).toNat default).L) a1.toNat x3).getD 2 default)), .d (.int .i64 ((aset 8 ((a0.getD (IntKind.i64.wrap ((a0.length : Int) - 1)).toNat default).L) a1.toNat x3).getD 3 default)), .d (.int .i64 ((aset 8 ((a0.getD (IntKind.i64.wrap ((a0.length : Int) - 1)).toNat default).L) a1.toNat x3).getD 4 default)), .d (.int .i64 ((aset 8 ((a0.getD (IntKind.i64.wrap ((a0.length : Int) - 1)).toNat default).L) a1.toNat x3).getD 5 default)), .d (.int .i64 ((aset 8 ((a0.getD (IntKind.i64.wrap ((a0.length : Int) - 1)).toNat default).L) a1.toNat x3).getD 6 default)), .d (.int .i64 ((aset 8 ((a0.getD (IntKind.i64.wrap ((a0.length : Int) - 1)).toNat default).L) a1.toNat x3).getD 7 default)), .d (.int .i64 (((a0.getD (IntKind.i64.wrap ((a0.length : Int) - 1)).toNat default).S).getD 0 default)), .d (.int .i64 (((a0.getD (IntKind.i64.wrap ((a0.length : Int) - 1)).toNat default).S).getD 1 default)), .d (.int .i64 (((a0.getD (IntKind.i64.wrap ((a0.length : Int) - 1)).toNat default).S).getD 2 default)), .d (.int .i64 (((a0.getD (IntKind.i64.wrap ((a0.length : Int) - 1)).toNat default).S).getD 3 default)), .d (.int .i64 (((a0.getD (IntKind.i64.wrap ((a0.length : Int) - 1)).toNat default).S).getD 4 default)), .d (.int .i64 (((a0.getD (IntKind.i64.wrap ((a0.length : Int) - 1)).toNat default).S).getD 5 default)), .d (.int .i64 (((a0.getD (IntKind.i64.wrap ((a0.length : Int) - 1)).toNat default).S).getD 6 default)), .d (.int .i64 (((a0.getD (IntKind.i64.wrap ((a0.length : Int) - 1)).toNat default).S).getD 7 default)), .d (.int .i64 (((a0.getD (IntKind.i64.wrap ((a0.length : Int) - 1)).toNat default).S).getD 8 default)), .d (.int .i64 (((a0.getD (IntKind.i64.wrap ((a0.length : Int) - 1)).toNat default).S).getD 9 default)), .d (.int .i64 (((a0.getD (IntKind.i64.wrap ((a0.length : Int) - 1)).toNat default).S).getD 10 default)), .d (.int .i64 (((a0.getD (IntKind.i64.wrap ((a0.length : Int) - 1)).toNat default).S).getD 11 default)), .d (.int .i64 (((a0.getD (IntKind.i64.wrap ((a0.length : Int) - 1)).toNat default).S).getD 12 default)), .d (.int .i64 (((a0.getD (IntKind.i64.wrap ((a0.length : Int) - 1)).toNat default).S).getD 13 default)), .d (.int .i64 (((a0.getD (IntKind.i64.wrap ((a0.length : Int) - 1)).toNat default).S).getD 14 default)), .d (.int .i64 (((a0.getD (IntKind.i64.wrap ((a0.length : Int) - 1)).toNat default).S).getD 15 default))]) rfl rfl rfl rfl rfl (by kernel_rfl) rfl rfl (nIn_ok g4) rfl rfl rfl) rfl ?_
  refine WL.nil ?_
  refine QT.n ?_
  refine WC.seq ?_
  refine WC.region ?_
  refine WL.run 2 tt_ok sg0 rfl rfl trivial ?_
  obtain ⟨x5, hx5, H⟩ := of_bind H
  refine WL.call [2330] (ref14_with_s 2330 rfl _ _ hx5) ref14_with_f rfl rfl trivial rfl rfl rfl ?_
  refine WL.run 1 tt_ok sg0 rfl rfl trivial ?_
  refine WL.nil ?_
  refine QT.n ?_
  refine WC.freezeT 2330 enc_api_Frame x5 rfl rfl rfl rfl ?_
  refine WC.ret ?_
  cases H
  exact Ends.auto rfl rfl rfl trivial
theorem ref14_Store_f : hasFunc Try.prog 25 Try.f25 := ⟨Try.func25, rfl, by kernel_rfl⟩

/-! ### logjam/logjamref14.Go -/
theorem ref14_Go_0 (a0 : List T_api_Frame) (a1 : Int) {r : List T_api_Frame} (H : ref14_Go a0 a1 = some r) : LJ.Spec Try.prog 26 [.d (slT enc_api_Frame a0), .d (.int .i64 a1)] [] (.d (slT enc_api_Frame r)) [] := by
  refine LJ.Spec.code Try.func26 rfl 21 rfl rfl [] rfl fun w0 F0 S0 B0 => ?_
  unfold ref14_Go at H
  refine WC.seq ?_
  refine WC.region ?_
  refine WL.run 1 tt_ok sg0 rfl rfl trivial ?_
  refine WL.nil ?_
  refine QT.n ?_
  refine WC.seq ?_
  refine WC.seq ?_
  refine WC.region ?_
  refine WL.run 3 tt_ok sg0 rfl rfl trivial ?_
  refine WL.nil ?_
  refine QT.n ?_
  refine WC.cond rfl (fun h1 => ?_) (fun h1 => ?_)
  · replace H := of_t H h1
    refine WC.seq ?_
    refine WC.region ?_
    refine WL.run 2 tt_ok sg0 rfl rfl trivial ?_
    refine WL.nil ?_
    refine QT.n ?_
    refine WC.ret ?_
    refine QT.r ?_
    cases H
    exact Ends.auto rfl rfl rfl trivial
  replace H := of_f H h1
  refine WC.skip ?_
  refine QT.n ?_
  refine WC.seq ?_
  refine WC.region ?_
  obtain ⟨g2, H⟩ := of_need H
  refine WL.run 6 tt_ok sg0 rfl rfl ⟨⟨(nIn_ok g2).1, (nIn_ok g2).2, rfl⟩, trivial⟩ ?_
  refine WL.alloc 105 tt_ok rfl rfl rfl ?_
  refine WL.eff 0 tt_ok et_ok eg0 rfl rfl rfl trivial ?_
  refine WL.nil ?_
  refine QT.n ?_
  refine WC.seq ?_
  refine WC.region ?_
  refine WL.run 2 tt_ok sg0 rfl rfl trivial ?_
  refine WL.eff 0 tt_ok et_ok eg0 rfl rfl rfl trivial ?_
  refine WL.nil ?_
  refine QT.n ?_
  refine WC.seq ?_
  refine WC.region ?_
  refine WL.run 2 tt_ok sg0 rfl rfl trivial ?_
  obtain ⟨x3, hx3, H⟩ := of_bind H
  refine WL.call [2200] (ref14_with_s 2200 rfl _ _ hx3) ref14_with_f rfl rfl trivial rfl rfl rfl ?_
  refine WL.run 1 tt_ok sg0 rfl rfl trivial ?_
  refine WL.nil ?_
  refine QT.n ?_
  refine WC.freezeT 2200 enc_api_Frame x3 rfl rfl rfl rfl ?_
  refine WC.ret ?_
  cases H
  exact Ends.auto rfl rfl rfl trivial
theorem ref14_Go_f : hasFunc Try.prog 26 Try.f26 := ⟨Try.func26, rfl, by kernel_rfl⟩

/-! ### logjam/logjamref14.Do -/
theorem ref14_Do_0 (a0 : List T_api_Frame) (a1 : T_ref14_Op) {r : List T_api_Frame} (H : ref14_Do a0 a1 = some r) : LJ.Spec Try.prog 13 [.d (slT enc_api_Frame a0), .d (.agg [.int .i64 a1.Kind, .int .i64 a1.K, .int .i64 a1.V])] [] (.d (slT enc_api_Frame r)) [] := by
  refine LJ.Spec.code Try.func13 rfl 70 rfl rfl [] rfl fun w0 F0 S0 B0 => ?_
  unfold ref14_Do at H
  refine WC.seq ?_
  refine WC.region ?_
  refine WL.eff 103 tt_ok et_ok eg0 rfl rfl rfl trivial ?_
  refine WL.run 1 tt_ok sg0 rfl rfl trivial ?_
  refine WL.nil ?_
  refine QT.n ?_
  refine WC.seq ?_
  refine WC.region ?_
  refine WL.run 3 tt_ok sg0 rfl rfl trivial ?_
  refine WL.nil ?_
  refine QT.n ?_
  refine WC.seq ?_
  refine WC.seq ?_
  refine WC.region ?_
  refine WL.run 2 tt_ok sg0 rfl rfl trivial ?_
  refine WL.nil ?_
  refine QT.n ?_
  refine WC.block ?_
  refine WC.seq ?_
  refine WC.region ?_
  refine WL.run 2 tt_ok sg0 rfl rfl trivial ?_
  refine WL.nil ?_
  refine QT.n ?_
  refine WC.cond rfl (fun h1 => ?_) (fun h1 => ?_)
  · replace H := of_t H h1
    refine WC.region ?_
    refine WL.run 3 tt_ok sg0 rfl rfl trivial ?_
    obtain ⟨x2, hx2, H⟩ := of_bind H
    refine WL.call [] (ref14_Push_0 _ _ hx2) ref14_Push_f rfl rfl trivial rfl rfl rfl ?_
    refine WL.run 5 tt_ok sg0 rfl rfl trivial ?_
    refine WL.nil ?_
    refine QB.n (QT.n ?_)
    refine WC.seq ?_
    refine WC.seq ?_
    refine WC.region ?_
    refine WL.run 2 tt_ok sg0 rfl rfl trivial ?_
    refine WL.nil ?_
    refine QT.n ?_
    refine WC.cond rfl (fun h3 => ?_) (fun h3 => ?_)
    · replace H := of_t H h3
      refine WC.seq ?_
      refine WC.region ?_
      refine WL.run 2 tt_ok sg0 rfl rfl trivial ?_
      refine WL.nil ?_
      refine QT.n ?_
      refine WC.ret ?_
      refine QT.r ?_
      cases H
      exact Ends.auto rfl rfl rfl trivial
    replace H := of_f H h3
    refine WC.skip ?_
    refine QT.n ?_
    refine WC.seq ?_
    refine WC.region ?_
    refine WL.run 2 tt_ok sg0 rfl rfl trivial ?_
    refine WL.nil ?_
    refine QT.n ?_
    refine WC.ret ?_
    cases H
    exact Ends.auto rfl rfl rfl trivial
  replace H := of_f H h1
  refine WC.seq ?_
  refine WC.region ?_
  refine WL.run 2 tt_ok sg0 rfl rfl trivial ?_
  refine WL.nil ?_
  refine QT.n ?_
  refine WC.cond rfl (fun h4 => ?_) (fun h4 => ?_)
  · replace H := of_t H h4
    refine WC.region ?_
    refine WL.run 3 tt_ok sg0 rfl rfl trivial ?_
    obtain ⟨x5, hx5, H⟩ := of_bind H
    refine WL.call [2290] (ref14_Pop_s 2290 rfl _ _ hx5) ref14_Pop_f rfl rfl trivial rfl rfl rfl ?_
    refine WL.run 6 tt_ok sg0 rfl rfl trivial ?_
    refine WL.nil ?_
    refine QB.n (QT.n ?_)
    refine WC.seq ?_
    refine WC.seq ?_
    refine WC.region ?_
    refine WL.run 2 tt_ok sg0 rfl rfl trivial ?_
    refine WL.nil ?_
    refine QT.n ?_
    refine WC.cond rfl (fun h6 => ?_) (fun h6 => ?_)
    · replace H := of_t H h6
      refine WC.seq ?_
      refine WC.region ?_
      refine WL.run 2 tt_ok sg0 rfl rfl trivial ?_
      refine WL.nil ?_
      refine QT.n ?_
      refine WC.ret ?_
      refine QT.r ?_
      cases H
      exact Ends.auto rfl rfl rfl trivial
    replace H := of_f H h6
    refine WC.skip ?_
    refine QT.n ?_
    refine WC.seq ?_
    refine WC.region ?_
    refine WL.run 2 tt_ok sg0 rfl rfl trivial ?_
    refine WL.nil ?_
    refine QT.n ?_
    refine WC.freezeT 2290 enc_api_Frame x5.1 rfl rfl rfl rfl ?_
    refine WC.ret ?_
    cases H
    exact Ends.auto rfl rfl rfl trivial
  replace H := of_f H h4
  refine WC.seq ?_
  refine WC.region ?_
  refine WL.run 2 tt_ok sg0 rfl rfl trivial ?_
  refine WL.nil ?_
  refine QT.n ?_
  refine WC.cond rfl (fun h7 => ?_) (fun h7 => ?_)
  · replace H := of_t H h7
    refine WC.region ?_
    refine WL.run 3 tt_ok sg0 rfl rfl trivial ?_
    obtain ⟨x8, hx8, H⟩ := of_bind H
    refine WL.call [] (ref14_Turn_0 _ _ hx8) ref14_Turn_f rfl rfl trivial rfl rfl rfl ?_
    refine WL.run 1 tt_ok sg0 rfl rfl trivial ?_
    refine WL.nil ?_
    refine QB.n (QT.n ?_)
    refine WC.seq ?_
    refine WC.seq ?_
    refine WC.region ?_
    refine WL.run 2 tt_ok sg0 rfl rfl trivial ?_
    refine WL.nil ?_
    refine QT.n ?_
    refine WC.cond rfl (fun h => absurd h (by decide)) (fun h => ?_)
    refine WC.skip ?_
    refine QT.n ?_
    refine WC.seq ?_
    refine WC.region ?_
    refine WL.run 2 tt_ok sg0 rfl rfl trivial ?_
    refine WL.nil ?_
    refine QT.n ?_
    refine WC.ret ?_
    cases H
    exact Ends.auto rfl rfl rfl trivial
  replace H := of_f H h7
  refine WC.seq ?_
  refine WC.region ?_
  refine WL.run 2 tt_ok sg0 rfl rfl trivial ?_
  refine WL.nil ?_
  refine QT.n ?_
  refine WC.cond rfl (fun h9 => ?_) (fun h9 => ?_)
  · replace H := of_t H h9
    refine WC.region ?_
    refine WL.run 5 tt_ok sg0 rfl rfl trivial ?_
    obtain ⟨x10, hx10, H⟩ := of_bind H
    refine WL.call [] (ref14_Call_0 _ _ _ hx10) ref14_Call_f rfl rfl trivial rfl rfl rfl ?_
    refine WL.run 5 tt_ok sg0 rfl rfl trivial ?_
    refine WL.nil ?_
    refine QB.n (QT.n ?_)
    refine WC.seq ?_
    refine WC.seq ?_
    refine WC.region ?_
    refine WL.run 2 tt_ok sg0 rfl rfl trivial ?_
    refine WL.nil ?_
    refine QT.n ?_
    refine WC.cond rfl (fun h11 => ?_) (fun h11 => ?_)
    · replace H := of_t H h11
      refine WC.seq ?_
      refine WC.region ?_
      refine WL.run 2 tt_ok sg0 rfl rfl trivial ?_
      refine WL.nil ?_
      refine QT.n ?_
      refine WC.ret ?_
      refine QT.r ?_
      cases H
      exact Ends.auto rfl rfl rfl trivial
    replace H := of_f H h11
    refine WC.skip ?_
    refine QT.n ?_
    refine WC.seq ?_
    refine WC.region ?_
    refine WL.run 2 tt_ok sg0 rfl rfl trivial ?_
    refine WL.nil ?_
    refine QT.n ?_
    refine WC.ret ?_
    cases H
    exact Ends.auto rfl rfl rfl trivial
  replace H := of_f H h9
  refine WC.seq ?_
  refine WC.region ?_
  refine WL.run 2 tt_ok sg0 rfl rfl trivial ?_
  refine WL.nil ?_
  refine QT.n ?_
  refine WC.cond rfl (fun h12 => ?_) (fun h12 => ?_)
  · replace H := of_t H h12
    refine WC.region ?_
    refine WL.run 1 tt_ok sg0 rfl rfl trivial ?_
    obtain ⟨x13, hx13, H⟩ := of_bind H
    refine WL.call [] (ref14_Ret_0 _ hx13) ref14_Ret_f rfl rfl trivial rfl rfl rfl ?_
    refine WL.run 6 tt_ok sg0 rfl rfl trivial ?_
    refine WL.nil ?_
    refine QB.n (QT.n ?_)
    refine WC.seq ?_
    refine WC.seq ?_
    refine WC.region ?_
    refine WL.run 2 tt_ok sg0 rfl rfl trivial ?_
    refine WL.nil ?_
    refine QT.n ?_
    refine WC.cond rfl (fun h14 => ?_) (fun h14 => ?_)
    · replace H := of_t H h14
      refine WC.seq ?_
      refine WC.region ?_
      refine WL.run 2 tt_ok sg0 rfl rfl trivial ?_
      refine WL.nil ?_
      refine QT.n ?_
      refine WC.ret ?_
      refine QT.r ?_
      cases H
      exact Ends.auto rfl rfl rfl trivial
    replace H := of_f H h14
    refine WC.skip ?_
    refine QT.n ?_
    refine WC.seq ?_
    refine WC.region ?_
    refine WL.run 2 tt_ok sg0 rfl rfl trivial ?_
    refine WL.nil ?_
    refine QT.n ?_
    refine WC.ret ?_
    cases H
    exact Ends.auto rfl rfl rfl trivial
  replace H := of_f H h12
  refine WC.seq ?_
  refine WC.region ?_
  refine WL.run 2 tt_ok sg0 rfl rfl trivial ?_
  refine WL.nil ?_
  refine QT.n ?_
  refine WC.cond rfl (fun h15 => ?_) (fun h15 => ?_)
  · replace H := of_t H h15
    refine WC.region ?_
    refine WL.run 5 tt_ok sg0 rfl rfl trivial ?_
    obtain ⟨x16, hx16, H⟩ := of_bind H
    refine WL.call [] (ref14_Store_0 _ _ _ hx16) ref14_Store_f rfl rfl trivial rfl rfl rfl ?_
    refine WL.run 1 tt_ok sg0 rfl rfl trivial ?_
    refine WL.nil ?_
    refine QB.n (QT.n ?_)
    refine WC.seq ?_
    refine WC.seq ?_
    refine WC.region ?_
    refine WL.run 2 tt_ok sg0 rfl rfl trivial ?_
    refine WL.nil ?_
    refine QT.n ?_
    refine WC.cond rfl (fun h => absurd h (by decide)) (fun h => ?_)
    refine WC.skip ?_
    refine QT.n ?_
    refine WC.seq ?_
    refine WC.region ?_
    refine WL.run 2 tt_ok sg0 rfl rfl trivial ?_
    refine WL.nil ?_
    refine QT.n ?_
    refine WC.ret ?_
    cases H
    exact Ends.auto rfl rfl rfl trivial
  replace H := of_f H h15
  refine WC.region ?_
  refine WL.run 3 tt_ok sg0 rfl rfl trivial ?_
  obtain ⟨x17, hx17, H⟩ := of_bind H
  refine WL.call [] (ref14_Go_0 _ _ hx17) ref14_Go_f rfl rfl trivial rfl rfl rfl ?_
  refine WL.run 1 tt_ok sg0 rfl rfl trivial ?_
  refine WL.nil ?_
  refine QB.n (QT.n ?_)
  refine WC.seq ?_
  refine WC.seq ?_
  refine WC.region ?_
  refine WL.run 2 tt_ok sg0 rfl rfl trivial ?_
  refine WL.nil ?_
  refine QT.n ?_
  refine WC.cond rfl (fun h => absurd h (by decide)) (fun h => ?_)
  refine WC.skip ?_
  refine QT.n ?_
  refine WC.seq ?_
  refine WC.region ?_
  refine WL.run 2 tt_ok sg0 rfl rfl trivial ?_
  refine WL.nil ?_
  refine QT.n ?_
  refine WC.ret ?_
  cases H
  exact Ends.auto rfl rfl rfl trivial
theorem ref14_Do_f : hasFunc Try.prog 13 Try.f13 := ⟨Try.func13, rfl, by kernel_rfl⟩

/-! ### logjam/logjamref14.Same -/
theorem ref14_Same_0 (a0 : List T_api_Frame) (a1 : List T_api_Frame) {r : Bool} (H : ref14_Same a0 a1 = some r) : LJ.Spec Try.prog 14 [.d (slT enc_api_Frame a0), .d (slT enc_api_Frame a1)] [] (.d (.bool r)) [] := by
  refine LJ.Spec.code Try.func14 rfl 75 rfl rfl [] rfl fun w0 F0 S0 B0 => ?_
  unfold ref14_Same at H
  refine WC.seq ?_
  refine WC.region ?_
  refine WL.run 1 tt_ok sg0 rfl rfl trivial ?_
  refine WL.nil ?_
  refine QT.n ?_
  refine WC.seq ?_
  refine WC.seq ?_
  refine WC.region ?_
  refine WL.run 5 tt_ok sg0 rfl rfl trivial ?_
  refine WL.nil ?_
  refine QT.n ?_
  refine WC.cond rfl (fun h1 => ?_) (fun h1 => ?_)
  · replace H := of_t H h1
    refine WC.seq ?_
    refine WC.region ?_
    refine WL.run 1 tt_ok sg0 rfl rfl trivial ?_
    refine WL.nil ?_
    refine QT.n ?_
    refine WC.ret ?_
    refine QT.r ?_
    cases H
    exact Ends.auto rfl rfl rfl trivial
  replace H := of_f H h1
  refine WC.skip ?_
  refine QT.n ?_
  refine WC.seq ?_
  refine WC.seq ?_
  refine WC.region ?_
  refine WL.run 1 tt_ok sg0 rfl rfl trivial ?_
  refine WL.nil ?_
  refine QT.n ?_
  refine WC.block ?_
  refine WC.loop (ι := {x : Nat × Int // ref14_Same_l3 a0 a1 x.1 x.2 = some r}) (fun x => [(0, .d (slT enc_api_Frame a0)), (1, .d (slT enc_api_Frame a1)), (5, .d (.int .i64 x.1.2))]) (fun x => []) (fun x => x.1.1) ⟨(fuel, 0), H⟩ (Less.mk' ⟨rfl, rfl, rfl, trivial⟩ trivial) fun x => ?_
  obtain ⟨⟨k3, s2⟩, H⟩ := x
  rcases k3 with _ | k3
  · exact of_none H
  rw [ref14_Same_l3] at H
  refine WC.seq ?_
  refine WC.seq ?_
  refine WC.region ?_
  refine WL.run 4 tt_ok sg0 rfl rfl trivial ?_
  refine WL.nil ?_
  refine QT.n ?_
  refine WC.cond rfl (fun h4 => ?_) (fun h4 => ?_)
  · replace H := of_t H h4
    refine WC.skip ?_
    refine QT.n ?_
    obtain ⟨K5, hK5, H⟩ := of_withK H
    refine WC.cut (fun E m => ∃ s6 : Unit, K5 s6 = some r ∧ LessW E m [(0, .d (slT enc_api_Frame a0)), (1, .d (slT enc_api_Frame a1)), (5, .d (.int .i64 s2))] []) ?_ ?_
    · refine WC.block ?_
      refine WC.seq ?_
      obtain ⟨g6_2_1, H⟩ := of_need H
      obtain ⟨g6_6_1, H⟩ := of_need H
      refine WC.heldF [(0, .d (slT enc_api_Frame a0)), (1, .d (slT enc_api_Frame a1)), (5, .d (.int .i64 s2)), (6, .ptr 106 0), (7, .ptr 107 0)] [(106, .box 45 [.d (.int .i64 ((a0.getD s2.toNat default).Fn)), .d (.int .i64 ((a0.getD s2.toNat default).Pc)), .d (.int .i64 ((a0.getD s2.toNat default).N)), .d (.int .i64 (((a0.getD s2.toNat default).L).getD 0 default)), .d (.int .i64 (((a0.getD s2.toNat default).L).getD 1 default)), .d (.int .i64 (((a0.getD s2.toNat default).L).getD 2 default)), .d (.int .i64 (((a0.getD s2.toNat default).L).getD 3 default)), .d (.int .i64 (((a0.getD s2.toNat default).L).getD 4 default)), .d (.int .i64 (((a0.getD s2.toNat default).L).getD 5 default)), .d (.int .i64 (((a0.getD s2.toNat default).L).getD 6 default)), .d (.int .i64 (((a0.getD s2.toNat default).L).getD 7 default)), .d (.int .i64 (((a0.getD s2.toNat default).S).getD 0 default)), .d (.int .i64 (((a0.getD s2.toNat default).S).getD 1 default)), .d (.int .i64 (((a0.getD s2.toNat default).S).getD 2 default)), .d (.int .i64 (((a0.getD s2.toNat default).S).getD 3 default)), .d (.int .i64 (((a0.getD s2.toNat default).S).getD 4 default)), .d (.int .i64 (((a0.getD s2.toNat default).S).getD 5 default)), .d (.int .i64 (((a0.getD s2.toNat default).S).getD 6 default)), .d (.int .i64 (((a0.getD s2.toNat default).S).getD 7 default)), .d (.int .i64 (((a0.getD s2.toNat default).S).getD 8 default)), .d (.int .i64 (((a0.getD s2.toNat default).S).getD 9 default)), .d (.int .i64 (((a0.getD s2.toNat default).S).getD 10 default)), .d (.int .i64 (((a0.getD s2.toNat default).S).getD 11 default)), .d (.int .i64 (((a0.getD s2.toNat default).S).getD 12 default)), .d (.int .i64 (((a0.getD s2.toNat default).S).getD 13 default)), .d (.int .i64 (((a0.getD s2.toNat default).S).getD 14 default)), .d (.int .i64 (((a0.getD s2.toNat default).S).getD 15 default))]), (107, .box 45 [.d (.int .i64 ((a1.getD s2.toNat default).Fn)), .d (.int .i64 ((a1.getD s2.toNat default).Pc)), .d (.int .i64 ((a1.getD s2.toNat default).N)), .d (.int .i64 (((a1.getD s2.toNat default).L).getD 0 default)), .d (.int .i64 (((a1.getD s2.toNat default).L).getD 1 default)), .d (.int .i64 (((a1.getD s2.toNat default).L).getD 2 default)), .d (.int .i64 (((a1.getD s2.toNat default).L).getD 3 default)), .d (.int .i64 (((a1.getD s2.toNat default).L).getD 4 default)), .d (.int .i64 (((a1.getD s2.toNat default).L).getD 5 default)), .d (.int .i64 (((a1.getD s2.toNat default).L).getD 6 default)), .d (.int .i64 (((a1.getD s2.toNat default).L).getD 7 default)), .d (.int .i64 (((a1.getD s2.toNat default).S).getD 0 default)), .d (.int .i64 (((a1.getD s2.toNat default).S).getD 1 default)), .d (.int .i64 (((a1.getD s2.toNat default).S).getD 2 default)), .d (.int .i64 (((a1.getD s2.toNat default).S).getD 3 default)), .d (.int .i64 (((a1.getD s2.toNat default).S).getD 4 default)), .d (.int .i64 (((a1.getD s2.toNat default).S).getD 5 default)), .d (.int .i64 (((a1.getD s2.toNat default).S).getD 6 default)), .d (.int .i64 (((a1.getD s2.toNat default).S).getD 7 default)), .d (.int .i64 (((a1.getD s2.toNat default).S).getD 8 default)), .d (.int .i64 (((a1.getD s2.toNat default).S).getD 9 default)), .d (.int .i64 (((a1.getD s2.toNat default).S).getD 10 default)), .d (.int .i64 (((a1.getD s2.toNat default).S).getD 11 default)), .d (.int .i64 (((a1.getD s2.toNat default).S).getD 12 default)), .d (.int .i64 (((a1.getD s2.toNat default).S).getD 13 default)), .d (.int .i64 (((a1.getD s2.toNat default).S).getD 14 default)), .d (.int .i64 (((a1.getD s2.toNat default).S).getD 15 default))])] (.one 0 true (.one 1 true (.one 2 true (.one 3 true (.one 4 true (.one 5 true (.one 6 true (.one 7 true (.fork (.one 8 false (.one 9 false (.one 10 false (.one 11 false .done)))) (.one 9 false (.one 8 false (.one 10 false (.one 11 false .done))))))))))))) [] [] rfl (by kernel_rfl) rfl (by kernel_rfl) rfl rfl (fun _ h => h) rfl rfl rfl (fun FK NK wK K => ?_) ?_
      · refine WH.run 8 tt_ok rfl rfl rfl rfl ⟨⟨(nIn_ok g6_2_1).1, (nIn_ok g6_2_1).2, rfl⟩, ⟨(nIn_ok g6_6_1).1, (nIn_ok g6_6_1).2, rfl⟩, trivial⟩ ?_
        refine WH.fork ?_ ?_
        · refine WH.alloc 106 tt_ok rfl rfl rfl rfl rfl rfl ?_
          refine WH.alloc 107 tt_ok rfl rfl rfl rfl rfl rfl ?_
          refine WH.eff 0 tt_ok et_ok rfl rfl rfl rfl trivial rfl rfl ?_
          refine WH.eff 0 tt_ok et_ok rfl rfl rfl rfl trivial rfl rfl ?_
          exact WH.nilF rfl (LessW.mk' ⟨AVle.of rfl, AVle.of rfl, AVle.of rfl, AVle.of rfl, AVle.of rfl, trivial⟩ ⟨rfl, rfl, trivial⟩)
        · refine WH.alloc 107 tt_ok rfl rfl rfl rfl rfl rfl ?_
          refine WH.alloc 106 tt_ok rfl rfl rfl rfl rfl rfl ?_
          refine WH.eff 0 tt_ok et_ok rfl rfl rfl rfl trivial rfl rfl ?_
          refine WH.eff 0 tt_ok et_ok rfl rfl rfl rfl trivial rfl rfl ?_
          exact WH.nilF rfl (LessW.mk' ⟨AVle.of rfl, AVle.of rfl, AVle.of rfl, AVle.of rfl, AVle.of rfl, trivial⟩ ⟨rfl, rfl, trivial⟩)
      · refine QT.n ?_
        refine WC.seq ?_
        refine WC.seq ?_
        refine WC.region ?_
        refine WL.run 6 tt_ok sg0 rfl rfl trivial ?_
        refine WL.sect 5 5 false tt_ok sg0 rfl rfl (fun _ => trivial) ?_
        refine WL.run 2 tt_ok sg0 rfl rfl ⟨by first | exact id | exact fun h => by rw [h]; rfl | simp_all, trivial⟩ ?_
        refine WL.sect 5 12 false tt_ok sg0 rfl rfl (fun _ => trivial) ?_
        refine WL.run 1 tt_ok sg0 rfl rfl ⟨by first | exact id | exact fun h => by rw [h]; rfl | simp_all, trivial⟩ ?_
        refine WL.nil ?_
        refine QT.n ?_
        refine WC.cond rfl (fun h7 => ?_) (fun h7 => ?_)
        · replace H := of_t H h7
          refine WC.seq ?_
          refine WC.region ?_
          refine WL.run 1 tt_ok sg0 rfl rfl trivial ?_
          refine WL.nil ?_
          refine QT.n ?_
          refine WC.ret ?_
          refine QT.r (QB.r (QT.r (QT.r (QB.r (QT.r ?_)))))
          cases H
          exact Ends.auto rfl rfl rfl trivial
        replace H := of_f H h7
        refine WC.skip ?_
        refine QT.n ?_
        refine WC.seq ?_
        refine WC.region ?_
        refine WL.run 1 tt_ok sg0 rfl rfl trivial ?_
        refine WL.nil ?_
        refine QT.n ?_
        refine WC.block ?_
        refine WC.loop (ι := {x : Nat × Int // ref14_Same_l9 a0 a1 s2 K5 x.1 x.2 = some r}) (fun x => [(0, .d (slT enc_api_Frame a0)), (1, .d (slT enc_api_Frame a1)), (5, .d (.int .i64 s2)), (6, .ptr 106 0), (7, .ptr 107 0), (8, .d (.int .i64 x.1.2))]) (fun x => [(106, .box 45 [.d (.int .i64 ((a0.getD s2.toNat default).Fn)), .d (.int .i64 ((a0.getD s2.toNat default).Pc)), .d (.int .i64 ((a0.getD s2.toNat default).N)), .d (.int .i64 (((a0.getD s2.toNat default).L).getD 0 default)), .d (.int .i64 (((a0.getD s2.toNat default).L).getD 1 default)), .d (.int .i64 (((a0.getD s2.toNat default).L).getD 2 default)), .d (.int .i64 (((a0.getD s2.toNat default).L).getD 3 default)), .d (.int .i64 (((a0.getD s2.toNat default).L).getD 4 default)), .d (.int .i64 (((a0.getD s2.toNat default).L).getD 5 default)), .d (.int .i64 (((a0.getD s2.toNat default).L).getD 6 default)), .d (.int .i64 (((a0.getD s2.toNat default).L).getD 7 default)), .d (.int .i64 (((a0.getD s2.toNat default).S).getD 0 default)), .d (.int .i64 (((a0.getD s2.toNat default).S).getD 1 default)), .d (.int .i64 (((a0.getD s2.toNat default).S).getD 2 default)), .d (.int .i64 (((a0.getD s2.toNat default).S).getD 3 default)), .d (.int .i64 (((a0.getD s2.toNat default).S).getD 4 default)), .d (.int .i64 (((a0.getD s2.toNat default).S).getD 5 default)), .d (.int .i64 (((a0.getD s2.toNat default).S).getD 6 default)), .d (.int .i64 (((a0.getD s2.toNat default).S).getD 7 default)), .d (.int .i64 (((a0.getD s2.toNat default).S).getD 8 default)), .d (.int .i64 (((a0.getD s2.toNat default).S).getD 9 default)), .d (.int .i64 (((a0.getD s2.toNat default).S).getD 10 default)), .d (.int .i64 (((a0.getD s2.toNat default).S).getD 11 default)), .d (.int .i64 (((a0.getD s2.toNat default).S).getD 12 default)), .d (.int .i64 (((a0.getD s2.toNat default).S).getD 13 default)), .d (.int .i64 (((a0.getD s2.toNat default).S).getD 14 default)), .d (.int .i64 (((a0.getD s2.toNat default).S).getD 15 default))]), (107, .box 45 [.d (.int .i64 ((a1.getD s2.toNat default).Fn)), .d (.int .i64 ((a1.getD s2.toNat default).Pc)), .d (.int .i64 ((a1.getD s2.toNat default).N)), .d (.int .i64 (((a1.getD s2.toNat default).L).getD 0 default)), .d (.int .i64 (((a1.getD s2.toNat default).L).getD 1 default)), .d (.int .i64 (((a1.getD s2.toNat default).L).getD 2 default)), .d (.int .i64 (((a1.getD s2.toNat default).L).getD 3 default)), .d (.int .i64 (((a1.getD s2.toNat default).L).getD 4 default)), .d (.int .i64 (((a1.getD s2.toNat default).L).getD 5 default)), .d (.int .i64 (((a1.getD s2.toNat default).L).getD 6 default)), .d (.int .i64 (((a1.getD s2.toNat default).L).getD 7 default)), .d (.int .i64 (((a1.getD s2.toNat default).S).getD 0 default)), .d (.int .i64 (((a1.getD s2.toNat default).S).getD 1 default)), .d (.int .i64 (((a1.getD s2.toNat default).S).getD 2 default)), .d (.int .i64 (((a1.getD s2.toNat default).S).getD 3 default)), .d (.int .i64 (((a1.getD s2.toNat default).S).getD 4 default)), .d (.int .i64 (((a1.getD s2.toNat default).S).getD 5 default)), .d (.int .i64 (((a1.getD s2.toNat default).S).getD 6 default)), .d (.int .i64 (((a1.getD s2.toNat default).S).getD 7 default)), .d (.int .i64 (((a1.getD s2.toNat default).S).getD 8 default)), .d (.int .i64 (((a1.getD s2.toNat default).S).getD 9 default)), .d (.int .i64 (((a1.getD s2.toNat default).S).getD 10 default)), .d (.int .i64 (((a1.getD s2.toNat default).S).getD 11 default)), .d (.int .i64 (((a1.getD s2.toNat default).S).getD 12 default)), .d (.int .i64 (((a1.getD s2.toNat default).S).getD 13 default)), .d (.int .i64 (((a1.getD s2.toNat default).S).getD 14 default)), .d (.int .i64 (((a1.getD s2.toNat default).S).getD 15 default))])]) (fun x => x.1.1) ⟨(fuel, 0), H⟩ (Less.mk' ⟨rfl, rfl, rfl, rfl, rfl, rfl, trivial⟩ ⟨rfl, rfl, trivial⟩) fun x => ?_
        obtain ⟨⟨k9, s8⟩, H⟩ := x
        rcases k9 with _ | k9
        · exact of_none H
        rw [ref14_Same_l9] at H
        refine WC.seq ?_
        refine WC.seq ?_
        refine WC.region ?_
        refine WL.run 2 tt_ok sg0 rfl rfl trivial ?_
        refine WL.nil ?_
        refine QT.n ?_
        refine WC.cond rfl (fun h10 => ?_) (fun h10 => ?_)
        · replace H := of_t H h10
          refine WC.skip ?_
          refine QT.n ?_
          refine WC.seq ?_
          refine WC.block ?_
          refine WC.seq ?_
          refine WC.heldP (.one 0 true (.one 1 true (.one 2 true (.one 3 true (.one 4 true (.one 5 true (.one 6 true (.one 7 true (.one 8 true (.one 9 true (.one 10 true (.one 11 true (.one 12 true (.one 13 true (.one 14 true (.one 15 true (.one 16 true (.one 17 true (.one 18 true (.one 19 true (.one 20 true (.one 21 true (.one 22 true (.one 23 true .done)))))))))))))))))))))))) [106, 107] [106, 107] rfl (by kernel_rfl) rfl (by kernel_rfl) rfl rfl (fun _ h => h) rfl rfl rfl (fun _ _ _ h => h) fun FK NK wK K => ?_
          refine WH.run 2 tt_ok rfl rfl rfl rfl trivial ?_
          obtain ⟨g11, H⟩ := of_need H
          refine WH.yv rfl (LJ.Y.idxPtrA 16 s8 (by kernel_rfl) rfl rfl rfl (nIn_ok g11)) rfl rfl rfl ?_
          refine WH.yv rfl (LJ.Y.loadPtrA 16 11 (fun k => .int .i64 (((a0.getD s2.toNat default).S).getD k default)) s8 rfl rfl rfl (by kernel_rfl) rfl (nIn_ok g11)) rfl rfl rfl ?_
          refine WH.run 2 tt_ok rfl rfl rfl rfl trivial ?_
          obtain ⟨g12, H⟩ := of_need H
          refine WH.yv rfl (LJ.Y.idxPtrA 16 s8 (by kernel_rfl) rfl rfl rfl (nIn_ok g12)) rfl rfl rfl ?_
          refine WH.yv rfl (LJ.Y.loadPtrA 16 11 (fun k => .int .i64 (((a1.getD s2.toNat default).S).getD k default)) s8 rfl rfl rfl (by kernel_rfl) rfl (nIn_ok g12)) rfl rfl rfl ?_
          refine WH.run 2 tt_ok rfl rfl rfl rfl trivial ?_
          refine WH.split (g := 60) rfl (fun h13 => ?_) (fun h13 => ?_)
          · replace H := of_t H h13
            refine WH.gskip rfl rfl rfl rfl rfl rfl rfl ?_
            refine WH.gskip rfl rfl rfl rfl rfl rfl rfl ?_
            refine WH.gskip rfl rfl rfl rfl rfl rfl rfl ?_
            refine WH.gskip rfl rfl rfl rfl rfl rfl rfl ?_
            refine WH.gskip rfl rfl rfl rfl rfl rfl rfl ?_
            refine WH.gskip rfl rfl rfl rfl rfl rfl rfl ?_
            refine WH.gskip rfl rfl rfl rfl rfl rfl rfl ?_
            refine WH.gskip rfl rfl rfl rfl rfl rfl rfl ?_
            refine WH.gskip rfl rfl rfl rfl rfl rfl rfl ?_
            refine WH.gskip rfl rfl rfl rfl rfl rfl rfl ?_
            refine WH.gskip rfl rfl rfl rfl rfl rfl rfl ?_
            refine WH.gskip rfl rfl rfl rfl rfl rfl rfl ?_
            refine WH.gskip rfl rfl rfl rfl rfl rfl rfl ?_
            refine WH.pick1 rfl rfl rfl rfl rfl rfl rfl ?_
            refine WH.nil rfl ?_
            refine QT.n ?_
            refine WC.cond rfl (fun h => ?_) (fun h => absurd h (by decide))
            refine WC.seq ?_
            refine WC.region ?_
            refine WL.run 1 tt_ok sg0 rfl rfl trivial ?_
            refine WL.nil ?_
            refine QT.n ?_
            refine WC.ret ?_
            refine QB.r (QT.r (QT.r (QB.r (QB.r (QT.r (QT.r (QB.r (QT.r ?_))))))))
            cases H
            exact Ends.auto rfl rfl rfl trivial
          · replace H := of_f H h13
            refine WH.grun 3 9 false 60 tt_ok rfl rfl rfl rfl rfl rfl trivial ?_
            refine WH.split (g := 63) rfl (fun h14 => ?_) (fun h14 => ?_)
            · replace H := of_t H h14
              refine WH.grun 2 12 true 63 tt_ok rfl rfl rfl rfl rfl rfl trivial ?_
              obtain ⟨g15, H⟩ := of_need H
              refine WH.gyv rfl (LJ.Y.idxPtrA 8 s8 (by kernel_rfl) rfl rfl rfl (nIn_ok g15)) rfl rfl rfl rfl rfl rfl ?_
              refine WH.gyv rfl (LJ.Y.loadPtrA 8 3 (fun k => .int .i64 (((a0.getD s2.toNat default).L).getD k default)) s8 rfl rfl rfl (by kernel_rfl) rfl (nIn_ok g15)) rfl rfl rfl rfl rfl rfl ?_
              refine WH.grun 2 12 true 63 tt_ok rfl rfl rfl rfl rfl rfl trivial ?_
              obtain ⟨g16, H⟩ := of_need H
              refine WH.gyv rfl (LJ.Y.idxPtrA 8 s8 (by kernel_rfl) rfl rfl rfl (nIn_ok g16)) rfl rfl rfl rfl rfl rfl ?_
              refine WH.gyv rfl (LJ.Y.loadPtrA 8 3 (fun k => .int .i64 (((a1.getD s2.toNat default).L).getD k default)) s8 rfl rfl rfl (by kernel_rfl) rfl (nIn_ok g16)) rfl rfl rfl rfl rfl rfl ?_
              refine WH.grun 1 12 true 63 tt_ok rfl rfl rfl rfl rfl rfl trivial ?_
              refine WH.gpick1 rfl rfl rfl rfl rfl rfl rfl rfl rfl rfl ?_
              refine WH.pick1 rfl rfl rfl rfl rfl rfl rfl ?_
              refine WH.nil rfl ?_
              refine QT.n ?_
              refine WC.cond rfl (fun h17 => ?_) (fun h17 => ?_)
              · replace H := of_t H h17
                refine WC.seq ?_
                refine WC.region ?_
                refine WL.run 1 tt_ok sg0 rfl rfl trivial ?_
                refine WL.nil ?_
                refine QT.n ?_
                refine WC.ret ?_
                refine QB.r (QT.r (QT.r (QB.r (QB.r (QT.r (QT.r (QB.r (QT.r ?_))))))))
                cases H
                exact Ends.auto rfl rfl rfl trivial
              replace H := of_f H h17
              refine WC.skip ?_
              refine QB.n (QT.n ?_)
              refine WC.region ?_
              refine WL.run 3 tt_ok sg0 rfl rfl trivial ?_
              refine WL.nil ?_
              refine QT.n ?_
              exact ⟨⟨(k9, IntKind.i64.wrap (s8 + 1)), H⟩, Nat.lt_succ_self _, Less.mk' ⟨rfl, rfl, rfl, rfl, rfl, rfl, trivial⟩ ⟨rfl, rfl, trivial⟩⟩
            · replace H := of_f H h14
              refine WH.gskip rfl rfl rfl rfl rfl rfl rfl ?_
              refine WH.gskip rfl rfl rfl rfl rfl rfl rfl ?_
              refine WH.gskip rfl rfl rfl rfl rfl rfl rfl ?_
              refine WH.gskip rfl rfl rfl rfl rfl rfl rfl ?_
              refine WH.gskip rfl rfl rfl rfl rfl rfl rfl ?_
              refine WH.gskip rfl rfl rfl rfl rfl rfl rfl ?_
              refine WH.gskip rfl rfl rfl rfl rfl rfl rfl ?_
              refine WH.gskip rfl rfl rfl rfl rfl rfl rfl ?_
              refine WH.gskip rfl rfl rfl rfl rfl rfl rfl ?_
              refine WH.gpick1 rfl rfl rfl rfl rfl rfl rfl rfl rfl rfl ?_
              refine WH.pick1 rfl rfl rfl rfl rfl rfl rfl ?_
              refine WH.nil rfl ?_
              refine QT.n ?_
              refine WC.cond rfl (fun h => absurd h (by decide)) (fun h => ?_)
              refine WC.skip ?_
              refine QB.n (QT.n ?_)
              refine WC.region ?_
              refine WL.run 3 tt_ok sg0 rfl rfl trivial ?_
              refine WL.nil ?_
              refine QT.n ?_
              exact ⟨⟨(k9, IntKind.i64.wrap (s8 + 1)), H⟩, Nat.lt_succ_self _, Less.mk' ⟨rfl, rfl, rfl, rfl, rfl, rfl, trivial⟩ ⟨rfl, rfl, trivial⟩⟩
        replace H := of_f H h10
        refine WC.exit ?_
        refine QT.x (QT.x (QB.hit (QB.n (QT.n ?_))))
        exact ⟨Unit.unit, H, LessW.mk' ⟨AVle.of rfl, AVle.of rfl, AVle.of rfl, trivial⟩ trivial⟩
    · rintro E m ⟨s6, H, hl⟩
      refine WC.lessW hl ?_
      replace H := (hK5 _).symm.trans H
      try dsimp only at H
      refine WC.region ?_
      refine WL.run 3 tt_ok sg0 rfl rfl trivial ?_
      refine WL.nil ?_
      refine QT.n ?_
      exact ⟨⟨(k3, IntKind.i64.wrap (s2 + 1)), H⟩, Nat.lt_succ_self _, Less.mk' ⟨rfl, rfl, rfl, trivial⟩ trivial⟩
  replace H := of_f H h4
  refine WC.exit ?_
  refine QT.x (QT.x (QB.hit (QT.n ?_)))
  refine WC.seq ?_
  refine WC.region ?_
  refine WL.run 1 tt_ok sg0 rfl rfl trivial ?_
  refine WL.nil ?_
  refine QT.n ?_
  refine WC.ret ?_
  cases H
  exact Ends.auto rfl rfl rfl trivial
theorem ref14_Same_f : hasFunc Try.prog 14 Try.f14 := ⟨Try.func14, rfl, by kernel_rfl⟩

/-! ### logjam/frame.Same -/
theorem frame_Same_0 (a0 : List T_api_Frame) (a1 : List T_api_Frame) {r : Bool} (H : frame_Same a0 a1 = some r) : LJ.Spec Try.prog 27 [.d (slT enc_api_Frame a0), .d (slT enc_api_Frame a1)] [] (.d (.bool r)) [] := by
  refine LJ.Spec.code Try.func27 rfl 26 rfl rfl [] rfl fun w0 F0 S0 B0 => ?_
  unfold frame_Same at H
  refine WC.seq ?_
  refine WC.region ?_
  refine WL.run 1 tt_ok sg0 rfl rfl trivial ?_
  refine WL.nil ?_
  refine QT.n ?_
  refine WC.seq ?_
  refine WC.seq ?_
  refine WC.region ?_
  refine WL.run 5 tt_ok sg0 rfl rfl trivial ?_
  refine WL.nil ?_
  refine QT.n ?_
  refine WC.cond rfl (fun h1 => ?_) (fun h1 => ?_)
  · replace H := of_t H h1
    refine WC.seq ?_
    refine WC.region ?_
    refine WL.run 1 tt_ok sg0 rfl rfl trivial ?_
    refine WL.nil ?_
    refine QT.n ?_
    refine WC.ret ?_
    refine QT.r ?_
    cases H
    exact Ends.auto rfl rfl rfl trivial
  replace H := of_f H h1
  refine WC.skip ?_
  refine QT.n ?_
  refine WC.seq ?_
  refine WC.seq ?_
  refine WC.region ?_
  refine WL.run 3 tt_ok sg0 rfl rfl trivial ?_
  refine WL.nil ?_
  refine QT.n ?_
  refine WC.block ?_
  refine WC.loop (ι := {x : Nat × Int // frame_Same_l3 a0 a1 x.1 x.2 = some r}) (fun x => [(1, .d (slT enc_api_Frame a1)), (12, .d (slT enc_api_Frame a0)), (13, .d (.int .i64 (a0.length : Int))), (14, .d (.int .i64 x.1.2))]) (fun x => []) (fun x => x.1.1) ⟨(fuel, 0), H⟩ (Less.mk' ⟨rfl, rfl, rfl, rfl, trivial⟩ trivial) fun x => ?_
  obtain ⟨⟨k3, s2⟩, H⟩ := x
  rcases k3 with _ | k3
  · exact of_none H
  rw [frame_Same_l3] at H
  refine WC.seq ?_
  refine WC.region ?_
  refine WL.run 1 tt_ok sg0 rfl rfl trivial ?_
  refine WL.nil ?_
  refine QT.n ?_
  refine WC.seq ?_
  refine WC.cond rfl (fun h4 => ?_) (fun h4 => ?_)
  · replace H := of_t H h4
    refine WC.skip ?_
    refine QT.n ?_
    refine WC.seq ?_
    refine WC.block ?_
    refine WC.seq ?_
    refine WC.region ?_
    obtain ⟨g5, H⟩ := of_need H
    refine WL.run 3 tt_ok sg0 rfl rfl ⟨⟨(nIn_ok g5).1, (nIn_ok g5).2, rfl⟩, trivial⟩ ?_
    refine WL.alloc 106 tt_ok rfl rfl rfl ?_
    refine WL.run 1 tt_ok sg0 rfl rfl trivial ?_
    refine WL.eff 0 tt_ok et_ok eg0 rfl rfl rfl trivial ?_
    refine WL.nil ?_
    refine QT.n ?_
    refine WC.seq ?_
    refine WC.heldP (.one 0 true (.one 1 true (.one 2 true (.one 3 true (.one 4 true (.one 5 true .done)))))) [106] [106] rfl (by kernel_rfl) rfl (by kernel_rfl) rfl rfl (fun _ h => h) rfl rfl rfl (fun _ _ _ h => h) fun FK NK wK K => ?_
    obtain ⟨g6, H⟩ := of_need H
    refine WH.run 5 tt_ok rfl rfl rfl rfl ⟨⟨(nIn_ok g6).1, (nIn_ok g6).2, rfl⟩, trivial⟩ ?_
    refine WH.yv rfl (LJ.Y.structEqA .neq 27 (.inr rfl) rfl rfl rfl (by kernel_rfl) rfl rfl rfl) rfl rfl rfl ?_
    refine WH.nil rfl ?_
    refine QT.n ?_
    refine WC.cond rfl (fun h7 => ?_) (fun h7 => ?_)
    · replace H := of_t H h7
      refine WC.seq ?_
      refine WC.region ?_
      refine WL.run 1 tt_ok sg0 rfl rfl trivial ?_
      refine WL.nil ?_
      refine QT.n ?_
      refine WC.ret ?_
      refine QB.r (QT.r (QT.r (QB.r (QT.r ?_))))
      cases H
      exact Ends.auto rfl rfl rfl trivial
    replace H := of_f H h7
    refine WC.skip ?_
    refine QB.n (QT.n ?_)
    refine WC.region ?_
    refine WL.run 2 tt_ok sg0 rfl rfl trivial ?_
    refine WL.nil ?_
    refine QT.n ?_
    exact ⟨⟨(k3, IntKind.i64.wrap (s2 + 1)), H⟩, Nat.lt_succ_self _, Less.mk' ⟨rfl, rfl, rfl, rfl, trivial⟩ trivial⟩
  replace H := of_f H h4
  refine WC.exit ?_
  refine QT.x (QT.x (QB.hit (QT.n ?_)))
  refine WC.seq ?_
  refine WC.region ?_
  refine WL.run 1 tt_ok sg0 rfl rfl trivial ?_
  refine WL.nil ?_
  refine QT.n ?_
  refine WC.ret ?_
  cases H
  exact Ends.auto rfl rfl rfl trivial
theorem frame_Same_f : hasFunc Try.prog 27 Try.f27 := ⟨Try.func27, rfl, by kernel_rfl⟩

/-! ### logjam/logjamlaw14.lives -/
theorem law14_lives_0  {r : Bool} (H : law14_lives = some r) : LJ.Spec Try.prog 15 [] [] (.d (.bool r)) [] := by
  refine LJ.Spec.code Try.func15 rfl 57 rfl rfl [] rfl fun w0 F0 S0 B0 => ?_
  unfold law14_lives at H
  refine WC.seq ?_
  refine WC.region ?_
  refine WL.run 1 tt_ok sg0 rfl rfl trivial ?_
  refine WL.nil ?_
  refine QT.n ?_
  refine WC.seq ?_
  refine WC.region ?_
  refine WL.eff 106 tt_ok et_ok eg0 rfl rfl rfl trivial ?_
  refine WL.freezeT 106 enc_i64 ([7] : List Int) rfl rfl rfl rfl ?_
  obtain ⟨x1, hx1, H⟩ := of_bind H
  refine WL.call [] (frame_New_0 _ _ hx1) frame_New_f rfl rfl trivial rfl rfl rfl ?_
  obtain ⟨x2, hx2, H⟩ := of_bind H
  refine WL.call [] (frame_Push_0 _ _ hx2) frame_Push_f rfl rfl trivial rfl rfl rfl ?_
  refine WL.run 5 tt_ok sg0 rfl rfl trivial ?_
  refine WL.nil ?_
  refine QT.n ?_
  refine WC.seq ?_
  refine WC.region ?_
  refine WL.run 1 tt_ok sg0 rfl rfl trivial ?_
  obtain ⟨x3, hx3, H⟩ := of_bind H
  refine WL.call [] (frame_Top_0 _ hx3) frame_Top_f rfl rfl trivial rfl rfl rfl ?_
  refine WL.run 5 tt_ok sg0 rfl rfl trivial ?_
  refine WL.nil ?_
  refine QT.n ?_
  refine WC.seq ?_
  refine WC.region ?_
  refine WL.run 4 tt_ok sg0 rfl rfl trivial ?_
  refine WL.sect 1 3 true tt_ok sg0 rfl rfl (fun _ => trivial) ?_
  refine WL.run 2 tt_ok sg0 rfl rfl ⟨by first | exact id | exact fun h => by rw [h]; rfl | simp_all, trivial⟩ ?_
  obtain ⟨g4, H⟩ := of_needS H
  refine WL.sect 5 6 true tt_ok sg0 rfl rfl (fun hb => ⟨⟨(nIn_ok (g4 hb)).1, (nIn_ok (g4 hb)).2, rfl⟩, trivial⟩) ?_
  refine WL.run 2 tt_ok sg0 rfl rfl ⟨by first | exact id | exact fun h => by rw [h]; rfl | simp_all, trivial⟩ ?_
  refine WL.split (g := 29) rfl (fun h5 => ?_) (fun h5 => ?_)
  · replace H := of_t H h5
    obtain ⟨g6, H⟩ := of_need H
    refine WL.grun 3 13 true 29 tt_ok sg0 rfl rfl rfl rfl ⟨⟨(nIn_ok g6).1, (nIn_ok g6).2, rfl⟩, trivial⟩ ?_
    obtain ⟨g7, H⟩ := of_need H
    refine WL.gyv (LJ.Y.idxElpA 16 (fun k => .int .i64 (((x2.1.getD (0 : Int).toNat default).S).getD k default)) (0 : Int) (by kernel_rfl) rfl rfl rfl rfl (nIn_ok g7)) rfl rfl rfl rfl rfl rfl ?_
    refine WL.grun 2 13 true 29 tt_ok sg0 rfl rfl rfl rfl trivial ?_
    refine WL.pickT rfl rfl rfl rfl rfl rfl ?_
    refine WL.run 1 tt_ok sg0 rfl rfl trivial ?_
    refine WL.split (g := 37) rfl (fun h8 => ?_) (fun h8 => ?_)
    · replace H := of_t H h8
      obtain ⟨g9, H⟩ := of_need H
      refine WL.grun 3 21 true 37 tt_ok sg0 rfl rfl rfl rfl ⟨⟨(nIn_ok g9).1, (nIn_ok g9).2, rfl⟩, trivial⟩ ?_
      obtain ⟨g10, H⟩ := of_need H
      refine WL.gyv (LJ.Y.idxElpA 8 (fun k => .int .i64 (((x2.1.getD (0 : Int).toNat default).L).getD k default)) (0 : Int) (by kernel_rfl) rfl rfl rfl rfl (nIn_ok g10)) rfl rfl rfl rfl rfl rfl ?_
      refine WL.grun 2 21 true 37 tt_ok sg0 rfl rfl rfl rfl trivial ?_
      refine WL.pickT rfl rfl rfl rfl rfl rfl ?_
      refine WL.run 1 tt_ok sg0 rfl rfl trivial ?_
      refine WL.sect 2 29 true tt_ok sg0 rfl rfl (fun _ => trivial) ?_
      refine WL.run 2 tt_ok sg0 rfl rfl ⟨by first | exact id | exact fun h => by rw [h]; rfl | simp_all, trivial⟩ ?_
      refine WL.sect 1 33 true tt_ok sg0 rfl rfl (fun _ => trivial) ?_
      refine WL.run 2 tt_ok sg0 rfl rfl ⟨by first | exact id | exact fun h => by rw [h]; rfl | simp_all, trivial⟩ ?_
      obtain ⟨x11, hx11, H⟩ := of_bind H
      refine WL.sect 3 36 true tt_ok [PSig.at' frame_Same_f ((((iEq (((x2.1.getD (0 : Int).toNat default).L).getD (0 : Int).toNat default) 7) && (iEq x3.1 5)) && x3.2) = true) rfl (fun hb => frame_Same_0 _ _ (of_t hx11 hb))] rfl rfl (fun hb => ⟨⟨hb, rfl⟩, trivial⟩) ?_
      refine WL.run 2 tt_ok sg0 rfl rfl ⟨by first | exact id | exact fun h => by rw [h]; rfl | simp_all, trivial⟩ ?_
      refine WL.nil ?_
      refine QT.n ?_
      refine WC.ret ?_
      cases H
      exact Ends.auto rfl rfl rfl trivial
    · replace H := of_f H h8
      refine WL.gskips 6 21 true 37 rfl rfl rfl rfl ?_
      refine WL.pickF rfl rfl rfl rfl rfl rfl ?_
      refine WL.run 1 tt_ok sg0 rfl rfl trivial ?_
      refine WL.gskips 2 29 true 45 rfl rfl rfl rfl ?_
      refine WL.pickF rfl rfl rfl rfl rfl rfl ?_
      refine WL.run 1 tt_ok sg0 rfl rfl trivial ?_
      refine WL.gskips 1 33 true 49 rfl rfl rfl rfl ?_
      refine WL.pickF rfl rfl rfl rfl rfl rfl ?_
      refine WL.run 1 tt_ok sg0 rfl rfl trivial ?_
      refine WL.gskips 3 36 true 52 rfl rfl rfl rfl ?_
      refine WL.pickF rfl rfl rfl rfl rfl rfl ?_
      refine WL.run 1 tt_ok sg0 rfl rfl trivial ?_
      refine WL.nil ?_
      refine QT.n ?_
      refine WC.ret ?_
      cases H
      exact Ends.auto rfl rfl rfl trivial
  · replace H := of_f H h5
    refine WL.gskips 6 13 true 29 rfl rfl rfl rfl ?_
    refine WL.pickF rfl rfl rfl rfl rfl rfl ?_
    refine WL.run 1 tt_ok sg0 rfl rfl trivial ?_
    refine WL.gskips 6 21 true 37 rfl rfl rfl rfl ?_
    refine WL.pickF rfl rfl rfl rfl rfl rfl ?_
    refine WL.run 1 tt_ok sg0 rfl rfl trivial ?_
    refine WL.gskips 2 29 true 45 rfl rfl rfl rfl ?_
    refine WL.pickF rfl rfl rfl rfl rfl rfl ?_
    refine WL.run 1 tt_ok sg0 rfl rfl trivial ?_
    refine WL.gskips 1 33 true 49 rfl rfl rfl rfl ?_
    refine WL.pickF rfl rfl rfl rfl rfl rfl ?_
    refine WL.run 1 tt_ok sg0 rfl rfl trivial ?_
    refine WL.gskips 3 36 true 52 rfl rfl rfl rfl ?_
    refine WL.pickF rfl rfl rfl rfl rfl rfl ?_
    refine WL.run 1 tt_ok sg0 rfl rfl trivial ?_
    refine WL.nil ?_
    refine QT.n ?_
    refine WC.ret ?_
    cases H
    exact Ends.auto rfl rfl rfl trivial
theorem law14_lives_f : hasFunc Try.prog 15 Try.f15 := ⟨Try.func15, rfl, by kernel_rfl⟩

/-! ### logjam/logjamlaw14.FrameRuns -/
theorem law14_FrameRuns_0 (a0 : Int) (a1 : List T_ref14_Op) {r : Bool} (H : law14_FrameRuns a0 a1 = some r) : LJ.Spec Try.prog 3 [.d (.int .i64 a0), .d (slT enc_ref14_Op a1)] [] (.d (.bool r)) [] := by
  refine LJ.Spec.code Try.func3 rfl 98 rfl rfl [] rfl fun w0 F0 S0 B0 => ?_
  unfold law14_FrameRuns at H
  refine WC.seq ?_
  refine WC.region ?_
  refine WL.run 1 tt_ok sg0 rfl rfl trivial ?_
  refine WL.nil ?_
  refine QT.n ?_
  refine WC.seq ?_
  refine WC.region ?_
  refine WL.run 1 tt_ok sg0 rfl rfl trivial ?_
  obtain ⟨x1, hx1, H⟩ := of_bind H
  refine WL.call [] (Spec.le (args' := [.d (.int .i64 a0), .d (.nils)]) (args := [.d (.int .i64 a0), .d (slT enc_i64 [])]) ⟨AVle.of rfl, AVle.nil rfl, trivial⟩ (frame_New_0 a0 ([] : List Int) hx1)) frame_New_f rfl rfl trivial rfl rfl rfl ?_
  refine WL.run 1 tt_ok sg0 rfl rfl trivial ?_
  obtain ⟨x2, hx2, H⟩ := of_bind H
  refine WL.call [] (Spec.le (args' := [.d (.int .i64 a0), .d (.nils)]) (args := [.d (.int .i64 a0), .d (slT enc_i64 [])]) ⟨AVle.of rfl, AVle.nil rfl, trivial⟩ (ref14_New_0 a0 ([] : List Int) hx2)) ref14_New_f rfl rfl trivial rfl rfl rfl ?_
  refine WL.run 2 tt_ok sg0 rfl rfl trivial ?_
  refine WL.nil ?_
  refine QT.n ?_
  refine WC.seq ?_
  refine WC.seq ?_
  refine WC.region ?_
  refine WL.run 1 tt_ok sg0 rfl rfl trivial ?_
  refine WL.nil ?_
  refine QT.n ?_
  refine WC.block ?_
  refine WC.loop (ι := {x : Nat × ((List T_api_Frame) × (List T_api_Frame) × Int) // law14_FrameRuns_l4 a1 x.1 x.2 = some r}) (fun x => [(1, .d (slT enc_ref14_Op a1)), (5, .d (slT enc_api_Frame x.1.2.1)), (6, .d (slT enc_api_Frame x.1.2.2.1)), (7, .d (.int .i64 x.1.2.2.2))]) (fun x => []) (fun x => x.1.1) ⟨(fuel, (x1, x2, 0)), H⟩ (Less.mk' ⟨rfl, rfl, rfl, rfl, trivial⟩ trivial) fun x => ?_
  obtain ⟨⟨k4, s3⟩, H⟩ := x
  rcases k4 with _ | k4
  · exact of_none H
  rw [law14_FrameRuns_l4] at H
  refine WC.seq ?_
  refine WC.seq ?_
  refine WC.region ?_
  refine WL.run 5 tt_ok sg0 rfl rfl trivial ?_
  refine WL.sect 2 4 true tt_ok sg0 rfl rfl (fun _ => trivial) ?_
  refine WL.run 1 tt_ok sg0 rfl rfl ⟨by first | exact id | exact fun h => by rw [h]; rfl | simp_all, trivial⟩ ?_
  refine WL.nil ?_
  refine QT.n ?_
  refine WC.cond rfl (fun h5 => ?_) (fun h5 => ?_)
  · replace H := of_t H h5
    refine WC.skip ?_
    refine QT.n ?_
    obtain ⟨K6, hK6, H⟩ := of_withK H
    refine WC.cut (fun E m => ∃ s7 : (List T_api_Frame) × (List T_api_Frame), K6 s7 = some r ∧ LessW E m [(1, .d (slT enc_ref14_Op a1)), (5, .d (slT enc_api_Frame s7.1)), (6, .d (slT enc_api_Frame s7.2)), (7, .d (.int .i64 s3.2.2))] []) ?_ ?_
    · refine WC.block ?_
      refine WC.seq ?_
      refine WC.region ?_
      obtain ⟨g8, H⟩ := of_need H
      refine WL.run 5 tt_ok sg0 rfl rfl ⟨⟨(nIn_ok g8).1, (nIn_ok g8).2, rfl⟩, trivial⟩ ?_
      refine WL.alloc 108 tt_ok rfl rfl rfl ?_
      refine WL.eff 0 tt_ok et_ok eg0 rfl rfl rfl trivial ?_
      refine WL.run 2 tt_ok sg0 rfl rfl trivial ?_
      refine WL.nil ?_
      refine QT.n ?_
      refine WC.seq ?_
      refine WC.seq ?_
      refine WC.region ?_
      refine WL.run 2 tt_ok sg0 rfl rfl trivial ?_
      refine WL.nil ?_
      refine QT.n ?_
      refine WC.block ?_
      refine WC.seq ?_
      refine WC.region ?_
      refine WL.run 2 tt_ok sg0 rfl rfl trivial ?_
      refine WL.nil ?_
      refine QT.n ?_
      refine WC.cond rfl (fun h9 => ?_) (fun h9 => ?_)
      · replace H := of_t H h9
        refine WC.region ?_
        refine WL.run 3 tt_ok sg0 rfl rfl trivial ?_
        obtain ⟨x10, hx10, H⟩ := of_bind H
        refine WL.call [] (frame_Push_0 _ _ hx10) frame_Push_f rfl rfl trivial rfl rfl rfl ?_
        refine WL.run 5 tt_ok sg0 rfl rfl trivial ?_
        refine WL.nil ?_
        refine QB.n (QT.n ?_)
        refine WC.seq ?_
        refine WC.seq ?_
        refine WC.region ?_
        refine WL.run 1 tt_ok sg0 rfl rfl trivial ?_
        refine WL.nil ?_
        refine QT.n ?_
        refine WC.cond rfl (fun h11 => ?_) (fun h11 => ?_)
        · replace H := of_t H h11
          refine WC.region ?_
          refine WL.run 2 tt_ok sg0 rfl rfl trivial ?_
          refine WL.nil ?_
          refine QT.n ?_
          refine WC.seq ?_
          refine WC.region ?_
          refine WL.run 2 tt_ok sg0 rfl rfl trivial ?_
          obtain ⟨x12, hx12, H⟩ := of_bind H
          refine WL.call [] (ref14_Do_0 _ _ hx12) ref14_Do_f rfl rfl trivial rfl rfl rfl ?_
          refine WL.run 1 tt_ok sg0 rfl rfl trivial ?_
          refine WL.nil ?_
          refine QT.n ?_
          refine WC.seq ?_
          refine WC.region ?_
          refine WL.run 2 tt_ok sg0 rfl rfl trivial ?_
          obtain ⟨x13, hx13, H⟩ := of_bind H
          refine WL.call [] (ref14_Same_0 _ _ hx13) ref14_Same_f rfl rfl trivial rfl rfl rfl ?_
          refine WL.run 1 tt_ok sg0 rfl rfl trivial ?_
          refine WL.nil ?_
          refine QT.n ?_
          refine WC.cond rfl (fun h14 => ?_) (fun h14 => ?_)
          · replace H := of_t H h14
            refine WC.seq ?_
            refine WC.region ?_
            refine WL.run 1 tt_ok sg0 rfl rfl trivial ?_
            refine WL.nil ?_
            refine QT.n ?_
            refine WC.ret ?_
            refine QB.r (QT.r (QT.r (QB.r (QT.r ?_))))
            cases H
            exact Ends.auto rfl rfl rfl trivial
          replace H := of_f H h14
          refine WC.skip ?_
          refine QB.n (QT.n ?_)
          exact ⟨(x10.1, x12), H, LessW.mk' ⟨AVle.of rfl, AVle.of rfl, AVle.of rfl, AVle.of rfl, trivial⟩ trivial⟩
        replace H := of_f H h11
        refine WC.skip ?_
        refine QT.n ?_
        refine WC.seq ?_
        refine WC.region ?_
        refine WL.run 2 tt_ok sg0 rfl rfl trivial ?_
        obtain ⟨x15, hx15, H⟩ := of_bind H
        refine WL.call [] (ref14_Do_0 _ _ hx15) ref14_Do_f rfl rfl trivial rfl rfl rfl ?_
        refine WL.run 1 tt_ok sg0 rfl rfl trivial ?_
        refine WL.nil ?_
        refine QT.n ?_
        refine WC.seq ?_
        refine WC.region ?_
        refine WL.run 2 tt_ok sg0 rfl rfl trivial ?_
        obtain ⟨x16, hx16, H⟩ := of_bind H
        refine WL.call [] (ref14_Same_0 _ _ hx16) ref14_Same_f rfl rfl trivial rfl rfl rfl ?_
        refine WL.run 1 tt_ok sg0 rfl rfl trivial ?_
        refine WL.nil ?_
        refine QT.n ?_
        refine WC.cond rfl (fun h17 => ?_) (fun h17 => ?_)
        · replace H := of_t H h17
          refine WC.seq ?_
          refine WC.region ?_
          refine WL.run 1 tt_ok sg0 rfl rfl trivial ?_
          refine WL.nil ?_
          refine QT.n ?_
          refine WC.ret ?_
          refine QB.r (QT.r (QT.r (QB.r (QT.r ?_))))
          cases H
          exact Ends.auto rfl rfl rfl trivial
        replace H := of_f H h17
        refine WC.skip ?_
        refine QB.n (QT.n ?_)
        exact ⟨(s3.1, x15), H, LessW.mk' ⟨AVle.of rfl, AVle.of rfl, AVle.of rfl, AVle.of rfl, trivial⟩ trivial⟩
      replace H := of_f H h9
      refine WC.seq ?_
      refine WC.region ?_
      refine WL.run 2 tt_ok sg0 rfl rfl trivial ?_
      refine WL.nil ?_
      refine QT.n ?_
      refine WC.cond rfl (fun h18 => ?_) (fun h18 => ?_)
      · replace H := of_t H h18
        refine WC.region ?_
        refine WL.run 3 tt_ok sg0 rfl rfl trivial ?_
        obtain ⟨x19, hx19, H⟩ := of_bind H
        refine WL.call [2510] (frame_Pop_s 2510 rfl _ _ hx19) frame_Pop_f rfl rfl trivial rfl rfl rfl ?_
        refine WL.run 6 tt_ok sg0 rfl rfl trivial ?_
        refine WL.nil ?_
        refine QB.n (QT.n ?_)
        refine WC.seq ?_
        refine WC.seq ?_
        refine WC.region ?_
        refine WL.run 1 tt_ok sg0 rfl rfl trivial ?_
        refine WL.nil ?_
        refine QT.n ?_
        refine WC.cond rfl (fun h20 => ?_) (fun h20 => ?_)
        · replace H := of_t H h20
          refine WC.region ?_
          refine WL.run 2 tt_ok sg0 rfl rfl trivial ?_
          refine WL.nil ?_
          refine QT.n ?_
          refine WC.seq ?_
          refine WC.region ?_
          refine WL.run 2 tt_ok sg0 rfl rfl trivial ?_
          obtain ⟨x21, hx21, H⟩ := of_bind H
          refine WL.call [] (ref14_Do_0 _ _ hx21) ref14_Do_f rfl rfl trivial rfl rfl rfl ?_
          refine WL.run 1 tt_ok sg0 rfl rfl trivial ?_
          refine WL.nil ?_
          refine QT.n ?_
          refine WC.seq ?_
          refine WC.region ?_
          refine WL.run 2 tt_ok sg0 rfl rfl trivial ?_
          refine WL.freezeT 2510 enc_api_Frame x19.1 rfl rfl rfl rfl ?_
          obtain ⟨x22, hx22, H⟩ := of_bind H
          refine WL.call [] (ref14_Same_0 _ _ hx22) ref14_Same_f rfl rfl trivial rfl rfl rfl ?_
          refine WL.run 1 tt_ok sg0 rfl rfl trivial ?_
          refine WL.nil ?_
          refine QT.n ?_
          refine WC.cond rfl (fun h23 => ?_) (fun h23 => ?_)
          · replace H := of_t H h23
            refine WC.seq ?_
            refine WC.region ?_
            refine WL.run 1 tt_ok sg0 rfl rfl trivial ?_
            refine WL.nil ?_
            refine QT.n ?_
            refine WC.ret ?_
            refine QB.r (QT.r (QT.r (QB.r (QT.r ?_))))
            cases H
            exact Ends.auto rfl rfl rfl trivial
          replace H := of_f H h23
          refine WC.skip ?_
          refine QB.n (QT.n ?_)
          exact ⟨(x19.1, x21), H, LessW.mk' ⟨AVle.of rfl, AVle.of rfl, AVle.of rfl, AVle.of rfl, trivial⟩ trivial⟩
        replace H := of_f H h20
        refine WC.skip ?_
        refine QT.n ?_
        refine WC.seq ?_
        refine WC.region ?_
        refine WL.run 2 tt_ok sg0 rfl rfl trivial ?_
        obtain ⟨x24, hx24, H⟩ := of_bind H
        refine WL.call [] (ref14_Do_0 _ _ hx24) ref14_Do_f rfl rfl trivial rfl rfl rfl ?_
        refine WL.run 1 tt_ok sg0 rfl rfl trivial ?_
        refine WL.nil ?_
        refine QT.n ?_
        refine WC.seq ?_
        refine WC.region ?_
        refine WL.run 2 tt_ok sg0 rfl rfl trivial ?_
        obtain ⟨x25, hx25, H⟩ := of_bind H
        refine WL.call [] (ref14_Same_0 _ _ hx25) ref14_Same_f rfl rfl trivial rfl rfl rfl ?_
        refine WL.run 1 tt_ok sg0 rfl rfl trivial ?_
        refine WL.nil ?_
        refine QT.n ?_
        refine WC.cond rfl (fun h26 => ?_) (fun h26 => ?_)
        · replace H := of_t H h26
          refine WC.seq ?_
          refine WC.region ?_
          refine WL.run 1 tt_ok sg0 rfl rfl trivial ?_
          refine WL.nil ?_
          refine QT.n ?_
          refine WC.ret ?_
          refine QB.r (QT.r (QT.r (QB.r (QT.r ?_))))
          cases H
          exact Ends.auto rfl rfl rfl trivial
        replace H := of_f H h26
        refine WC.skip ?_
        refine QB.n (QT.n ?_)
        exact ⟨(s3.1, x24), H, LessW.mk' ⟨AVle.of rfl, AVle.of rfl, AVle.of rfl, AVle.of rfl, trivial⟩ trivial⟩
      replace H := of_f H h18
      refine WC.seq ?_
      refine WC.region ?_
      refine WL.run 2 tt_ok sg0 rfl rfl trivial ?_
      refine WL.nil ?_
      refine QT.n ?_
      refine WC.cond rfl (fun h27 => ?_) (fun h27 => ?_)
      · replace H := of_t H h27
        refine WC.region ?_
        refine WL.run 3 tt_ok sg0 rfl rfl trivial ?_
        obtain ⟨x28, hx28, H⟩ := of_bind H
        refine WL.call [] (frame_Turn_0 _ _ hx28) frame_Turn_f rfl rfl trivial rfl rfl rfl ?_
        refine WL.run 1 tt_ok sg0 rfl rfl trivial ?_
        refine WL.nil ?_
        refine QB.n (QT.n ?_)
        refine WC.seq ?_
        refine WC.seq ?_
        refine WC.region ?_
        refine WL.run 1 tt_ok sg0 rfl rfl trivial ?_
        refine WL.nil ?_
        refine QT.n ?_
        refine WC.cond rfl (fun h => ?_) (fun h => absurd h (by decide))
        refine WC.region ?_
        refine WL.run 2 tt_ok sg0 rfl rfl trivial ?_
        refine WL.nil ?_
        refine QT.n ?_
        refine WC.seq ?_
        refine WC.region ?_
        refine WL.run 2 tt_ok sg0 rfl rfl trivial ?_
        obtain ⟨x29, hx29, H⟩ := of_bind H
        refine WL.call [] (ref14_Do_0 _ _ hx29) ref14_Do_f rfl rfl trivial rfl rfl rfl ?_
        refine WL.run 1 tt_ok sg0 rfl rfl trivial ?_
        refine WL.nil ?_
        refine QT.n ?_
        refine WC.seq ?_
        refine WC.region ?_
        refine WL.run 2 tt_ok sg0 rfl rfl trivial ?_
        obtain ⟨x30, hx30, H⟩ := of_bind H
        refine WL.call [] (ref14_Same_0 _ _ hx30) ref14_Same_f rfl rfl trivial rfl rfl rfl ?_
        refine WL.run 1 tt_ok sg0 rfl rfl trivial ?_
        refine WL.nil ?_
        refine QT.n ?_
        refine WC.cond rfl (fun h31 => ?_) (fun h31 => ?_)
        · replace H := of_t H h31
          refine WC.seq ?_
          refine WC.region ?_
          refine WL.run 1 tt_ok sg0 rfl rfl trivial ?_
          refine WL.nil ?_
          refine QT.n ?_
          refine WC.ret ?_
          refine QB.r (QT.r (QT.r (QB.r (QT.r ?_))))
          cases H
          exact Ends.auto rfl rfl rfl trivial
        replace H := of_f H h31
        refine WC.skip ?_
        refine QB.n (QT.n ?_)
        exact ⟨(x28, x29), H, LessW.mk' ⟨AVle.of rfl, AVle.of rfl, AVle.of rfl, AVle.of rfl, trivial⟩ trivial⟩
      replace H := of_f H h27
      refine WC.seq ?_
      refine WC.region ?_
      refine WL.run 2 tt_ok sg0 rfl rfl trivial ?_
      refine WL.nil ?_
      refine QT.n ?_
      refine WC.cond rfl (fun h32 => ?_) (fun h32 => ?_)
      · replace H := of_t H h32
        refine WC.region ?_
        refine WL.run 5 tt_ok sg0 rfl rfl trivial ?_
        obtain ⟨x33, hx33, H⟩ := of_bind H
        refine WL.call [] (frame_Call_0 _ _ _ hx33) frame_Call_f rfl rfl trivial rfl rfl rfl ?_
        refine WL.run 5 tt_ok sg0 rfl rfl trivial ?_
        refine WL.nil ?_
        refine QB.n (QT.n ?_)
        refine WC.seq ?_
        refine WC.seq ?_
        refine WC.region ?_
        refine WL.run 1 tt_ok sg0 rfl rfl trivial ?_
        refine WL.nil ?_
        refine QT.n ?_
        refine WC.cond rfl (fun h34 => ?_) (fun h34 => ?_)
        · replace H := of_t H h34
          refine WC.region ?_
          refine WL.run 2 tt_ok sg0 rfl rfl trivial ?_
          refine WL.nil ?_
          refine QT.n ?_
          refine WC.seq ?_
          refine WC.region ?_
          refine WL.run 2 tt_ok sg0 rfl rfl trivial ?_
          obtain ⟨x35, hx35, H⟩ := of_bind H
          refine WL.call [] (ref14_Do_0 _ _ hx35) ref14_Do_f rfl rfl trivial rfl rfl rfl ?_
          refine WL.run 1 tt_ok sg0 rfl rfl trivial ?_
          refine WL.nil ?_
          refine QT.n ?_
          refine WC.seq ?_
          refine WC.region ?_
          refine WL.run 2 tt_ok sg0 rfl rfl trivial ?_
          obtain ⟨x36, hx36, H⟩ := of_bind H
          refine WL.call [] (ref14_Same_0 _ _ hx36) ref14_Same_f rfl rfl trivial rfl rfl rfl ?_
          refine WL.run 1 tt_ok sg0 rfl rfl trivial ?_
          refine WL.nil ?_
          refine QT.n ?_
          refine WC.cond rfl (fun h37 => ?_) (fun h37 => ?_)
          · replace H := of_t H h37
            refine WC.seq ?_
            refine WC.region ?_
            refine WL.run 1 tt_ok sg0 rfl rfl trivial ?_
            refine WL.nil ?_
            refine QT.n ?_
            refine WC.ret ?_
            refine QB.r (QT.r (QT.r (QB.r (QT.r ?_))))
            cases H
            exact Ends.auto rfl rfl rfl trivial
          replace H := of_f H h37
          refine WC.skip ?_
          refine QB.n (QT.n ?_)
          exact ⟨(x33.1, x35), H, LessW.mk' ⟨AVle.of rfl, AVle.of rfl, AVle.of rfl, AVle.of rfl, trivial⟩ trivial⟩
        replace H := of_f H h34
        refine WC.skip ?_
        refine QT.n ?_
        refine WC.seq ?_
        refine WC.region ?_
        refine WL.run 2 tt_ok sg0 rfl rfl trivial ?_
        obtain ⟨x38, hx38, H⟩ := of_bind H
        refine WL.call [] (ref14_Do_0 _ _ hx38) ref14_Do_f rfl rfl trivial rfl rfl rfl ?_
        refine WL.run 1 tt_ok sg0 rfl rfl trivial ?_
        refine WL.nil ?_
        refine QT.n ?_
        refine WC.seq ?_
        refine WC.region ?_
        refine WL.run 2 tt_ok sg0 rfl rfl trivial ?_
        obtain ⟨x39, hx39, H⟩ := of_bind H
        refine WL.call [] (ref14_Same_0 _ _ hx39) ref14_Same_f rfl rfl trivial rfl rfl rfl ?_
        refine WL.run 1 tt_ok sg0 rfl rfl trivial ?_
        refine WL.nil ?_
        refine QT.n ?_
        refine WC.cond rfl (fun h40 => ?_) (fun h40 => ?_)
        · replace H := of_t H h40
          refine WC.seq ?_
          refine WC.region ?_
          refine WL.run 1 tt_ok sg0 rfl rfl trivial ?_
          refine WL.nil ?_
          refine QT.n ?_
          refine WC.ret ?_
          refine QB.r (QT.r (QT.r (QB.r (QT.r ?_))))
          cases H
          exact Ends.auto rfl rfl rfl trivial
        replace H := of_f H h40
        refine WC.skip ?_
        refine QB.n (QT.n ?_)
        exact ⟨(s3.1, x38), H, LessW.mk' ⟨AVle.of rfl, AVle.of rfl, AVle.of rfl, AVle.of rfl, trivial⟩ trivial⟩
      replace H := of_f H h32
      refine WC.seq ?_
      refine WC.region ?_
      refine WL.run 2 tt_ok sg0 rfl rfl trivial ?_
      refine WL.nil ?_
      refine QT.n ?_
      refine WC.cond rfl (fun h41 => ?_) (fun h41 => ?_)
      · replace H := of_t H h41
        refine WC.region ?_
        refine WL.run 1 tt_ok sg0 rfl rfl trivial ?_
        obtain ⟨x42, hx42, H⟩ := of_bind H
        refine WL.call [] (frame_Ret_0 _ hx42) frame_Ret_f rfl rfl trivial rfl rfl rfl ?_
        refine WL.run 6 tt_ok sg0 rfl rfl trivial ?_
        refine WL.nil ?_
        refine QB.n (QT.n ?_)
        refine WC.seq ?_
        refine WC.seq ?_
        refine WC.region ?_
        refine WL.run 1 tt_ok sg0 rfl rfl trivial ?_
        refine WL.nil ?_
        refine QT.n ?_
        refine WC.cond rfl (fun h43 => ?_) (fun h43 => ?_)
        · replace H := of_t H h43
          refine WC.region ?_
          refine WL.run 2 tt_ok sg0 rfl rfl trivial ?_
          refine WL.nil ?_
          refine QT.n ?_
          refine WC.seq ?_
          refine WC.region ?_
          refine WL.run 2 tt_ok sg0 rfl rfl trivial ?_
          obtain ⟨x44, hx44, H⟩ := of_bind H
          refine WL.call [] (ref14_Do_0 _ _ hx44) ref14_Do_f rfl rfl trivial rfl rfl rfl ?_
          refine WL.run 1 tt_ok sg0 rfl rfl trivial ?_
          refine WL.nil ?_
          refine QT.n ?_
          refine WC.seq ?_
          refine WC.region ?_
          refine WL.run 2 tt_ok sg0 rfl rfl trivial ?_
          obtain ⟨x45, hx45, H⟩ := of_bind H
          refine WL.call [] (ref14_Same_0 _ _ hx45) ref14_Same_f rfl rfl trivial rfl rfl rfl ?_
          refine WL.run 1 tt_ok sg0 rfl rfl trivial ?_
          refine WL.nil ?_
          refine QT.n ?_
          refine WC.cond rfl (fun h46 => ?_) (fun h46 => ?_)
          · replace H := of_t H h46
            refine WC.seq ?_
            refine WC.region ?_
            refine WL.run 1 tt_ok sg0 rfl rfl trivial ?_
            refine WL.nil ?_
            refine QT.n ?_
            refine WC.ret ?_
            refine QB.r (QT.r (QT.r (QB.r (QT.r ?_))))
            cases H
            exact Ends.auto rfl rfl rfl trivial
          replace H := of_f H h46
          refine WC.skip ?_
          refine QB.n (QT.n ?_)
          exact ⟨(x42.1, x44), H, LessW.mk' ⟨AVle.of rfl, AVle.of rfl, AVle.of rfl, AVle.of rfl, trivial⟩ trivial⟩
        replace H := of_f H h43
        refine WC.skip ?_
        refine QT.n ?_
        refine WC.seq ?_
        refine WC.region ?_
        refine WL.run 2 tt_ok sg0 rfl rfl trivial ?_
        obtain ⟨x47, hx47, H⟩ := of_bind H
        refine WL.call [] (ref14_Do_0 _ _ hx47) ref14_Do_f rfl rfl trivial rfl rfl rfl ?_
        refine WL.run 1 tt_ok sg0 rfl rfl trivial ?_
        refine WL.nil ?_
        refine QT.n ?_
        refine WC.seq ?_
        refine WC.region ?_
        refine WL.run 2 tt_ok sg0 rfl rfl trivial ?_
        obtain ⟨x48, hx48, H⟩ := of_bind H
        refine WL.call [] (ref14_Same_0 _ _ hx48) ref14_Same_f rfl rfl trivial rfl rfl rfl ?_
        refine WL.run 1 tt_ok sg0 rfl rfl trivial ?_
        refine WL.nil ?_
        refine QT.n ?_
        refine WC.cond rfl (fun h49 => ?_) (fun h49 => ?_)
        · replace H := of_t H h49
          refine WC.seq ?_
          refine WC.region ?_
          refine WL.run 1 tt_ok sg0 rfl rfl trivial ?_
          refine WL.nil ?_
          refine QT.n ?_
          refine WC.ret ?_
          refine QB.r (QT.r (QT.r (QB.r (QT.r ?_))))
          cases H
          exact Ends.auto rfl rfl rfl trivial
        replace H := of_f H h49
        refine WC.skip ?_
        refine QB.n (QT.n ?_)
        exact ⟨(s3.1, x47), H, LessW.mk' ⟨AVle.of rfl, AVle.of rfl, AVle.of rfl, AVle.of rfl, trivial⟩ trivial⟩
      replace H := of_f H h41
      refine WC.seq ?_
      refine WC.region ?_
      refine WL.run 2 tt_ok sg0 rfl rfl trivial ?_
      refine WL.nil ?_
      refine QT.n ?_
      refine WC.cond rfl (fun h50 => ?_) (fun h50 => ?_)
      · replace H := of_t H h50
        refine WC.region ?_
        refine WL.run 5 tt_ok sg0 rfl rfl trivial ?_
        obtain ⟨x51, hx51, H⟩ := of_bind H
        refine WL.call [] (frame_Store_0 _ _ _ hx51) frame_Store_f rfl rfl trivial rfl rfl rfl ?_
        refine WL.run 1 tt_ok sg0 rfl rfl trivial ?_
        refine WL.nil ?_
        refine QB.n (QT.n ?_)
        refine WC.seq ?_
        refine WC.seq ?_
        refine WC.region ?_
        refine WL.run 1 tt_ok sg0 rfl rfl trivial ?_
        refine WL.nil ?_
        refine QT.n ?_
        refine WC.cond rfl (fun h => ?_) (fun h => absurd h (by decide))
        refine WC.region ?_
        refine WL.run 2 tt_ok sg0 rfl rfl trivial ?_
        refine WL.nil ?_
        refine QT.n ?_
        refine WC.seq ?_
        refine WC.region ?_
        refine WL.run 2 tt_ok sg0 rfl rfl trivial ?_
        obtain ⟨x52, hx52, H⟩ := of_bind H
        refine WL.call [] (ref14_Do_0 _ _ hx52) ref14_Do_f rfl rfl trivial rfl rfl rfl ?_
        refine WL.run 1 tt_ok sg0 rfl rfl trivial ?_
        refine WL.nil ?_
        refine QT.n ?_
        refine WC.seq ?_
        refine WC.region ?_
        refine WL.run 2 tt_ok sg0 rfl rfl trivial ?_
        obtain ⟨x53, hx53, H⟩ := of_bind H
        refine WL.call [] (ref14_Same_0 _ _ hx53) ref14_Same_f rfl rfl trivial rfl rfl rfl ?_
        refine WL.run 1 tt_ok sg0 rfl rfl trivial ?_
        refine WL.nil ?_
        refine QT.n ?_
        refine WC.cond rfl (fun h54 => ?_) (fun h54 => ?_)
        · replace H := of_t H h54
          refine WC.seq ?_
          refine WC.region ?_
          refine WL.run 1 tt_ok sg0 rfl rfl trivial ?_
          refine WL.nil ?_
          refine QT.n ?_
          refine WC.ret ?_
          refine QB.r (QT.r (QT.r (QB.r (QT.r ?_))))
          cases H
          exact Ends.auto rfl rfl rfl trivial
        replace H := of_f H h54
        refine WC.skip ?_
        refine QB.n (QT.n ?_)
        exact ⟨(x51, x52), H, LessW.mk' ⟨AVle.of rfl, AVle.of rfl, AVle.of rfl, AVle.of rfl, trivial⟩ trivial⟩
      replace H := of_f H h50
      refine WC.region ?_
      refine WL.run 3 tt_ok sg0 rfl rfl trivial ?_
      obtain ⟨x55, hx55, H⟩ := of_bind H
      refine WL.call [] (frame_Go_0 _ _ hx55) frame_Go_f rfl rfl trivial rfl rfl rfl ?_
      refine WL.run 1 tt_ok sg0 rfl rfl trivial ?_
      refine WL.nil ?_
      refine QB.n (QT.n ?_)
      refine WC.seq ?_
      refine WC.seq ?_
      refine WC.region ?_
      refine WL.run 1 tt_ok sg0 rfl rfl trivial ?_
      refine WL.nil ?_
      refine QT.n ?_
      refine WC.cond rfl (fun h => ?_) (fun h => absurd h (by decide))
      refine WC.region ?_
      refine WL.run 2 tt_ok sg0 rfl rfl trivial ?_
      refine WL.nil ?_
      refine QT.n ?_
      refine WC.seq ?_
      refine WC.region ?_
      refine WL.run 2 tt_ok sg0 rfl rfl trivial ?_
      obtain ⟨x56, hx56, H⟩ := of_bind H
      refine WL.call [] (ref14_Do_0 _ _ hx56) ref14_Do_f rfl rfl trivial rfl rfl rfl ?_
      refine WL.run 1 tt_ok sg0 rfl rfl trivial ?_
      refine WL.nil ?_
      refine QT.n ?_
      refine WC.seq ?_
      refine WC.region ?_
      refine WL.run 2 tt_ok sg0 rfl rfl trivial ?_
      obtain ⟨x57, hx57, H⟩ := of_bind H
      refine WL.call [] (ref14_Same_0 _ _ hx57) ref14_Same_f rfl rfl trivial rfl rfl rfl ?_
      refine WL.run 1 tt_ok sg0 rfl rfl trivial ?_
      refine WL.nil ?_
      refine QT.n ?_
      refine WC.cond rfl (fun h58 => ?_) (fun h58 => ?_)
      · replace H := of_t H h58
        refine WC.seq ?_
        refine WC.region ?_
        refine WL.run 1 tt_ok sg0 rfl rfl trivial ?_
        refine WL.nil ?_
        refine QT.n ?_
        refine WC.ret ?_
        refine QB.r (QT.r (QT.r (QB.r (QT.r ?_))))
        cases H
        exact Ends.auto rfl rfl rfl trivial
      replace H := of_f H h58
      refine WC.skip ?_
      refine QB.n (QT.n ?_)
      exact ⟨(x55, x56), H, LessW.mk' ⟨AVle.of rfl, AVle.of rfl, AVle.of rfl, AVle.of rfl, trivial⟩ trivial⟩
    · rintro E m ⟨s7, H, hl⟩
      refine WC.lessW hl ?_
      replace H := (hK6 _).symm.trans H
      try dsimp only at H
      refine WC.region ?_
      refine WL.run 3 tt_ok sg0 rfl rfl trivial ?_
      refine WL.nil ?_
      refine QT.n ?_
      exact ⟨⟨(k4, (s7.1, s7.2, IntKind.i64.wrap (s3.2.2 + 1))), H⟩, Nat.lt_succ_self _, Less.mk' ⟨rfl, rfl, rfl, rfl, trivial⟩ trivial⟩
  replace H := of_f H h5
  refine WC.exit ?_
  refine QT.x (QT.x (QB.hit (QT.n ?_)))
  refine WC.seq ?_
  refine WC.region ?_
  obtain ⟨x59, hx59, H⟩ := of_bind H
  refine WL.call [] (law14_lives_0 hx59) law14_lives_f rfl rfl trivial rfl rfl rfl ?_
  refine WL.run 1 tt_ok sg0 rfl rfl trivial ?_
  refine WL.nil ?_
  refine QT.n ?_
  refine WC.ret ?_
  cases H
  exact Ends.auto rfl rfl rfl trivial
theorem law14_FrameRuns_f : hasFunc Try.prog 3 Try.f3 := ⟨Try.func3, rfl, by kernel_rfl⟩

end Go.Proofs.Ytkgbjabenghegaa.W
