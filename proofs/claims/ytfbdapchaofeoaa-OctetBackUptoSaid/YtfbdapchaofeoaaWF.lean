/- Each Go function comes to what its plain function gives, where that gives something. -/
import Derived.Test.YtfbdapchaofeoaaPF
import Derived.Test.YtfbdapchaofeoaaProg
namespace Go.Proofs.Ytfbdapchaofeoaa.W
open Go Go.RowKit LJ
set_option linter.unusedVariables false
set_option linter.unusedSimpArgs false
set_option maxRecDepth 10000
/-- The types that the walks meet. -/
def tt : List (Nat × TK) := [(2, .int .i64), (3, .int .i64), (4, .bool), (5, .int .u8), (9, .str), (22, .ptr), (24, .ptr), (25, .slice 5 1), (27, .struct 1 [(0, 1, true)] [.nils]), (31, .int .u64), (33, .int .i64), (39, .slice 42 4), (42, .struct 4 [(0, 1, true), (1, 1, true), (2, 1, true), (3, 1, true)] [.int .i64 0, .int .u64 0, .int .i64 0, .str .empty]), (45, .slice 3 1), (47, .struct 3 [(0, 1, true), (1, 1, true), (2, 1, true)] [.str .empty, .int .i64 0, .int .i64 0]), (59, .struct 3 [(0, 1, true), (1, 1, true), (2, 1, true)] [.str .empty, .int .i64 0, .int .i64 0])]
theorem tt_ok : ttOK Try.prog tt = true := by kernel_rfl
/-- Elements of the slices that are appended to: cells, bytes. -/
def et : List (Nat × Nat × Nat) := [(3, 1, 8), (5, 1, 1), (42, 4, 40)]
theorem et_ok : etOK Try.prog et = true := by kernel_rfl
theorem eb_ok : byteB Try.prog 5 = true := by kernel_rfl
def sg0 : List (PSig Try.prog) := []
def eg0 : List (ESig Try.prog) := []
/-! ### logjam/octet.Open -/
theorem octet_Open_0 (a0 : ByteArray) {r : T_octet_In} (H : octet_Open a0 = some r) : LJ.Spec Try.prog 9 [.d (.str a0)] [] (.ptr 0 0) [(0, .box 59 [.d (.str r.s), .d (.int .i64 r.at_), .d (.int .i64 r.err)])] := by
  refine LJ.Spec.code Try.func9 rfl 6 rfl rfl [] rfl fun w0 F0 S0 B0 => ?_
  unfold octet_Open at H
  refine WC.seq ?_
  refine WC.region ?_
  refine WL.run 1 tt_ok sg0 rfl rfl trivial ?_
  refine WL.nil ?_
  refine QT.n ?_
  refine WC.seq ?_
  refine WC.region ?_
  refine WL.run 2 tt_ok sg0 rfl rfl trivial ?_
  refine WL.eff 0 tt_ok et_ok eg0 rfl rfl rfl trivial ?_
  refine WL.run 1 tt_ok sg0 rfl rfl trivial ?_
  refine WL.nil ?_
  refine QT.n ?_
  refine WC.ret ?_
  cases H
  exact Ends.auto rfl rfl rfl ⟨rfl, trivial⟩
theorem octet_Open_s (n0 : Nat) (hn : nodupB [n0] = true) (a0 : ByteArray) {r : T_octet_In} (H : octet_Open a0 = some r) : LJ.Spec Try.prog 9 [.d (.str a0)] [] (.ptr n0 0) [(n0, .box 59 [.d (.str r.s), .d (.int .i64 r.at_), .d (.int .i64 r.err)])] :=
  Spec.names [n0] hn rfl rfl (octet_Open_0 a0 H)
theorem octet_Open_f : hasFunc Try.prog 9 Try.f9 := ⟨Try.func9, rfl, by kernel_rfl⟩

/-! ### (*logjam/octet.In).fail -/
theorem octet_In_fail_0 (a0 : T_octet_In) (a1 : Int) {r : T_octet_In} (H : octet_In_fail a0 a1 = some r) : LJ.Spec Try.prog 28 [.ptr 0 0, .d (.int .i64 a1)] [(0, .box 59 [.d (.str a0.s), .d (.int .i64 a0.at_), .d (.int .i64 a0.err)])] (.tup []) [(0, .box 59 [.d (.str r.s), .d (.int .i64 r.at_), .d (.int .i64 r.err)])] := by
  refine LJ.Spec.code Try.func28 rfl 21 rfl rfl [0] rfl fun w0 F0 S0 B0 => ?_
  unfold octet_In_fail at H
  refine WC.seq ?_
  refine WC.region ?_
  refine WL.run 5 tt_ok sg0 rfl rfl trivial ?_
  refine WL.nil ?_
  refine QT.n ?_
  refine WC.cond rfl (fun h1 => ?_) (fun h1 => ?_)
  · replace H := of_t H h1
    refine WC.region ?_
    refine WL.run 10 tt_ok sg0 rfl rfl trivial ?_
    refine WL.eff 0 tt_ok et_ok eg0 rfl rfl rfl trivial ?_
    refine WL.run 2 tt_ok sg0 rfl rfl trivial ?_
    refine WL.eff 0 tt_ok et_ok eg0 rfl rfl rfl trivial ?_
    refine WL.nil ?_
    cases H
    exact Ends.auton rfl rfl rfl ⟨rfl, trivial⟩
  replace H := of_f H h1
  refine WC.skip ?_
  cases H
  exact Ends.auton rfl rfl rfl ⟨rfl, trivial⟩
theorem octet_In_fail_s (n0 : Nat) (hn : nodupB [n0] = true) (a0 : T_octet_In) (a1 : Int) {r : T_octet_In} (H : octet_In_fail a0 a1 = some r) : LJ.Spec Try.prog 28 [.ptr n0 0, .d (.int .i64 a1)] [(n0, .box 59 [.d (.str a0.s), .d (.int .i64 a0.at_), .d (.int .i64 a0.err)])] (.tup []) [(n0, .box 59 [.d (.str r.s), .d (.int .i64 r.at_), .d (.int .i64 r.err)])] :=
  Spec.names [n0] hn rfl rfl (octet_In_fail_0 a0 a1 H)
theorem octet_In_fail_f : hasFunc Try.prog 28 Try.f28 := ⟨Try.func28, rfl, by kernel_rfl⟩

/-! ### (*logjam/octet.In).Byte -/
theorem octet_In_Byte_0 (a0 : T_octet_In) {r : Int × T_octet_In} (H : octet_In_Byte a0 = some r) : LJ.Spec Try.prog 21 [.ptr 0 0] [(0, .box 59 [.d (.str a0.s), .d (.int .i64 a0.at_), .d (.int .i64 a0.err)])] (.d (.int .i64 r.1)) [(0, .box 59 [.d (.str r.2.s), .d (.int .i64 r.2.at_), .d (.int .i64 r.2.err)])] := by
  refine LJ.Spec.code Try.func21 rfl 35 rfl rfl [0] rfl fun w0 F0 S0 B0 => ?_
  unfold octet_In_Byte at H
  refine WC.seq ?_
  refine WC.region ?_
  refine WL.run 1 tt_ok sg0 rfl rfl trivial ?_
  refine WL.nil ?_
  refine QT.n ?_
  refine WC.seq ?_
  refine WC.seq ?_
  refine WC.region ?_
  refine WL.run 2 tt_ok sg0 rfl rfl trivial ?_
  refine WL.nil ?_
  refine QT.n ?_
  refine WC.cond rfl (fun h => absurd h (by decide)) (fun h => ?_)
  refine WC.skip ?_
  refine QT.n ?_
  refine WC.seq ?_
  refine WC.seq ?_
  refine WC.heldP (.one 0 true (.one 1 true (.one 2 true (.one 3 true (.one 4 true (.one 5 true (.one 6 true (.one 7 true (.one 8 true (.one 9 true .done)))))))))) [0] [0] rfl (by kernel_rfl) rfl (by kernel_rfl) rfl rfl (fun _ h => h) rfl rfl rfl (fun _ _ _ h => h) fun FK NK wK K => ?_
  refine WH.run 10 tt_ok rfl rfl rfl rfl trivial ?_
  refine WH.nil rfl ?_
  refine QT.n ?_
  refine WC.cond rfl (fun h1 => ?_) (fun h1 => ?_)
  · replace H := of_t H h1
    refine WC.seq ?_
    refine WC.region ?_
    refine WL.run 1 tt_ok sg0 rfl rfl trivial ?_
    obtain ⟨x2, hx2, H⟩ := of_bind H
    refine WL.call [] (octet_In_fail_s 0 rfl _ _ hx2) octet_In_fail_f rfl rfl ⟨rfl, trivial⟩ rfl rfl rfl ?_
    refine WL.nil ?_
    refine QT.n ?_
    refine WC.seq ?_
    refine WC.region ?_
    refine WL.run 1 tt_ok sg0 rfl rfl trivial ?_
    refine WL.nil ?_
    refine QT.n ?_
    refine WC.ret ?_
    refine QT.r ?_
    cases H
    exact Ends.auto rfl rfl rfl ⟨rfl, trivial⟩
  replace H := of_f H h1
  refine WC.skip ?_
  refine QT.n ?_
  refine WC.seq ?_
  refine WC.region ?_
  refine WL.run 7 tt_ok sg0 rfl rfl trivial ?_
  refine WL.eff 0 tt_ok et_ok eg0 rfl rfl rfl trivial ?_
  refine WL.nil ?_
  refine QT.n ?_
  refine WC.seq ?_
  refine WC.heldP (.one 0 true (.one 1 true (.one 2 true (.one 3 true (.one 4 true (.one 5 true (.one 6 true (.one 7 true (.one 8 true (.one 9 true (.one 10 true (.one 11 true .done)))))))))))) [0] [0] rfl (by kernel_rfl) rfl (by kernel_rfl) rfl rfl (fun _ h => h) rfl rfl rfl (fun _ _ _ h => h) fun FK NK wK K => ?_
  obtain ⟨g3, H⟩ := of_need H
  refine WH.run 12 tt_ok rfl rfl rfl rfl ⟨(nIn_ok g3), trivial⟩ ?_
  refine WH.nil rfl ?_
  refine QT.n ?_
  refine WC.ret ?_
  cases H
  exact Ends.auto rfl rfl rfl ⟨rfl, trivial⟩
theorem octet_In_Byte_s (n0 : Nat) (hn : nodupB [n0] = true) (a0 : T_octet_In) {r : Int × T_octet_In} (H : octet_In_Byte a0 = some r) : LJ.Spec Try.prog 21 [.ptr n0 0] [(n0, .box 59 [.d (.str a0.s), .d (.int .i64 a0.at_), .d (.int .i64 a0.err)])] (.d (.int .i64 r.1)) [(n0, .box 59 [.d (.str r.2.s), .d (.int .i64 r.2.at_), .d (.int .i64 r.2.err)])] :=
  Spec.names [n0] hn rfl rfl (octet_In_Byte_0 a0 H)
theorem octet_In_Byte_f : hasFunc Try.prog 21 Try.f21 := ⟨Try.func21, rfl, by kernel_rfl⟩

/-! ### (*logjam/octet.In).Num -/
theorem octet_In_Num_0 (a0 : T_octet_In) {r : Int × T_octet_In} (H : octet_In_Num a0 = some r) : LJ.Spec Try.prog 13 [.ptr 0 0] [(0, .box 59 [.d (.str a0.s), .d (.int .i64 a0.at_), .d (.int .i64 a0.err)])] (.d (.int .u64 r.1)) [(0, .box 59 [.d (.str r.2.s), .d (.int .i64 r.2.at_), .d (.int .i64 r.2.err)])] := by
  refine LJ.Spec.code Try.func13 rfl 49 rfl rfl [0] rfl fun w0 F0 S0 B0 => ?_
  unfold octet_In_Num at H
  refine WC.seq ?_
  refine WC.region ?_
  refine WL.run 1 tt_ok sg0 rfl rfl trivial ?_
  refine WL.nil ?_
  refine QT.n ?_
  refine WC.seq ?_
  refine WC.region ?_
  refine WL.run 1 tt_ok sg0 rfl rfl trivial ?_
  refine WL.nil ?_
  refine QT.n ?_
  refine WC.seq ?_
  refine WC.seq ?_
  refine WC.region ?_
  refine WL.run 1 tt_ok sg0 rfl rfl trivial ?_
  refine WL.nil ?_
  refine QT.n ?_
  refine WC.block ?_
  refine WC.loop (ι := {x : Nat × (Int × Int × ByteArray × Int × Int) // octet_In_Num_l2 x.1 x.2 = some r}) (fun x => [(0, .ptr 0 0), (3, .d (.int .u64 x.1.2.1)), (6, .d (.int .i64 x.1.2.2.1))]) (fun x => [(0, .box 59 [.d (.str x.1.2.2.2.1), .d (.int .i64 x.1.2.2.2.2.1), .d (.int .i64 x.1.2.2.2.2.2)])]) (fun x => x.1.1) ⟨(fuel, (0, 0, a0.s, a0.at_, a0.err)), H⟩ (Less.mk' ⟨rfl, rfl, rfl, trivial⟩ ⟨rfl, trivial⟩) fun x => ?_
  obtain ⟨⟨k2, s1⟩, H⟩ := x
  rcases k2 with _ | k2
  · exact of_none H
  rw [octet_In_Num_l2] at H
  refine WC.seq ?_
  refine WC.region ?_
  refine WL.run 1 tt_ok sg0 rfl rfl trivial ?_
  refine WL.nil ?_
  refine QT.n ?_
  refine WC.seq ?_
  refine WC.cond rfl (fun h3 => ?_) (fun h3 => ?_)
  · replace H := of_t H h3
    refine WC.skip ?_
    refine QT.n ?_
    refine WC.seq ?_
    refine WC.block ?_
    refine WC.seq ?_
    refine WC.region ?_
    refine WL.run 2 tt_ok sg0 rfl rfl trivial ?_
    refine WL.nil ?_
    refine QT.n ?_
    refine WC.seq ?_
    refine WC.region ?_
    refine WL.run 1 tt_ok sg0 rfl rfl trivial ?_
    obtain ⟨x4, hx4, H⟩ := of_bind H
    refine WL.call [] (octet_In_Byte_s 0 rfl _ hx4) octet_In_Byte_f rfl rfl ⟨rfl, trivial⟩ rfl rfl rfl ?_
    refine WL.run 1 tt_ok sg0 rfl rfl trivial ?_
    refine WL.nil ?_
    refine QT.n ?_
    refine WC.seq ?_
    refine WC.seq ?_
    refine WC.region ?_
    refine WL.run 3 tt_ok sg0 rfl rfl trivial ?_
    refine WL.grun 5 2 false 13 tt_ok sg0 rfl rfl rfl rfl trivial ?_
    refine WL.pickF rfl rfl rfl rfl rfl rfl ?_
    refine WL.nil ?_
    refine QT.n ?_
    refine WC.cond rfl (fun h5 => ?_) (fun h5 => ?_)
    · replace H := of_t H h5
      refine WC.seq ?_
      refine WC.region ?_
      refine WL.run 1 tt_ok sg0 rfl rfl trivial ?_
      refine WL.nil ?_
      refine QT.n ?_
      refine WC.ret ?_
      refine QT.r (QB.r (QT.r (QT.r (QB.r (QT.r ?_)))))
      cases H
      exact Ends.auto rfl rfl rfl ⟨rfl, trivial⟩
    replace H := of_f H h5
    refine WC.skip ?_
    refine QT.n ?_
    refine WC.seq ?_
    refine WC.seq ?_
    refine WC.region ?_
    refine WL.run 3 tt_ok sg0 rfl rfl trivial ?_
    refine WL.sect 2 2 true tt_ok sg0 rfl rfl (fun _ => trivial) ?_
    refine WL.run 2 tt_ok sg0 rfl rfl ⟨by first | exact id | exact fun h => by rw [h]; rfl | simp_all, trivial⟩ ?_
    refine WL.sect 3 6 false tt_ok sg0 rfl rfl (fun _ => trivial) ?_
    refine WL.sect 2 9 true tt_ok sg0 rfl rfl (fun _ => trivial) ?_
    refine WL.sect 1 6 false tt_ok sg0 rfl rfl (fun hb => ⟨by first | exact id | exact ⟨hb, fun h => by rw [hb, h]; rfl⟩ | exact ⟨hb, id⟩ | exact fun h => by rw [hb, h]; rfl | exact fun h => by rw [h]; rfl | simp_all, trivial⟩) ?_
    refine WL.run 1 tt_ok sg0 rfl rfl ⟨by first | exact id | exact fun h => by rw [h]; rfl | simp_all, trivial⟩ ?_
    refine WL.nil ?_
    refine QT.n ?_
    refine WC.cond rfl (fun h6 => ?_) (fun h6 => ?_)
    · replace H := of_t H h6
      refine WC.seq ?_
      refine WC.region ?_
      refine WL.run 1 tt_ok sg0 rfl rfl trivial ?_
      obtain ⟨x7, hx7, H⟩ := of_bind H
      refine WL.call [] (octet_In_fail_s 0 rfl _ _ hx7) octet_In_fail_f rfl rfl ⟨rfl, trivial⟩ rfl rfl rfl ?_
      refine WL.nil ?_
      refine QT.n ?_
      refine WC.seq ?_
      refine WC.region ?_
      refine WL.run 1 tt_ok sg0 rfl rfl trivial ?_
      refine WL.nil ?_
      refine QT.n ?_
      refine WC.ret ?_
      refine QT.r (QB.r (QT.r (QT.r (QB.r (QT.r ?_)))))
      cases H
      exact Ends.auto rfl rfl rfl ⟨rfl, trivial⟩
    replace H := of_f H h6
    refine WC.skip ?_
    refine QT.n ?_
    refine WC.seq ?_
    refine WC.region ?_
    obtain ⟨g8, H⟩ := of_need H
    refine WL.run 9 tt_ok sg0 rfl rfl ⟨(nNn_ok g8), trivial⟩ ?_
    refine WL.nil ?_
    refine QT.n ?_
    refine WC.seq ?_
    refine WC.region ?_
    refine WL.run 2 tt_ok sg0 rfl rfl trivial ?_
    refine WL.nil ?_
    refine QT.n ?_
    refine WC.cond rfl (fun h9 => ?_) (fun h9 => ?_)
    · replace H := of_t H h9
      refine WC.seq ?_
      refine WC.region ?_
      refine WL.run 2 tt_ok sg0 rfl rfl trivial ?_
      refine WL.nil ?_
      refine QT.n ?_
      refine WC.ret ?_
      refine QB.r (QT.r (QT.r (QB.r (QT.r ?_))))
      cases H
      exact Ends.auto rfl rfl rfl ⟨rfl, trivial⟩
    replace H := of_f H h9
    refine WC.skip ?_
    refine QB.n (QT.n ?_)
    refine WC.region ?_
    refine WL.run 2 tt_ok sg0 rfl rfl trivial ?_
    refine WL.nil ?_
    refine QT.n ?_
    exact ⟨⟨(k2, (Go.bits .or .u64 s1.1 (IntKind.u64.wrap ((IntKind.u64.wrap (Go.bits .and .i64 x4.1 127)) * 2 ^ min (IntKind.i64.wrap ((7 : Int) * s1.2.1) : Int).toNat IntKind.u64.bits)), IntKind.i64.wrap (s1.2.1 + 1), x4.2.s, x4.2.at_, x4.2.err)), H⟩, Nat.lt_succ_self _, Less.mk' ⟨rfl, rfl, rfl, trivial⟩ ⟨rfl, trivial⟩⟩
  replace H := of_f H h3
  refine WC.exit ?_
  refine QT.x (QT.x (QB.hit (QT.n ?_)))
  refine WC.seq ?_
  refine WC.region ?_
  refine WL.run 2 tt_ok sg0 rfl rfl trivial ?_
  refine WL.nil ?_
  refine QT.n ?_
  refine WC.ret ?_
  cases H
  exact Ends.auto rfl rfl rfl ⟨rfl, trivial⟩
theorem octet_In_Num_s (n0 : Nat) (hn : nodupB [n0] = true) (a0 : T_octet_In) {r : Int × T_octet_In} (H : octet_In_Num a0 = some r) : LJ.Spec Try.prog 13 [.ptr n0 0] [(n0, .box 59 [.d (.str a0.s), .d (.int .i64 a0.at_), .d (.int .i64 a0.err)])] (.d (.int .u64 r.1)) [(n0, .box 59 [.d (.str r.2.s), .d (.int .i64 r.2.at_), .d (.int .i64 r.2.err)])] :=
  Spec.names [n0] hn rfl rfl (octet_In_Num_0 a0 H)
theorem octet_In_Num_f : hasFunc Try.prog 13 Try.f13 := ⟨Try.func13, rfl, by kernel_rfl⟩

/-! ### (*logjam/octet.In).Int -/
theorem octet_In_Int_0 (a0 : T_octet_In) {r : Int × T_octet_In} (H : octet_In_Int a0 = some r) : LJ.Spec Try.prog 11 [.ptr 0 0] [(0, .box 59 [.d (.str a0.s), .d (.int .i64 a0.at_), .d (.int .i64 a0.err)])] (.d (.int .i64 r.1)) [(0, .box 59 [.d (.str r.2.s), .d (.int .i64 r.2.at_), .d (.int .i64 r.2.err)])] := by
  refine LJ.Spec.code Try.func11 rfl 14 rfl rfl [0] rfl fun w0 F0 S0 B0 => ?_
  unfold octet_In_Int at H
  refine WC.seq ?_
  refine WC.region ?_
  refine WL.run 1 tt_ok sg0 rfl rfl trivial ?_
  refine WL.nil ?_
  refine QT.n ?_
  refine WC.seq ?_
  refine WC.region ?_
  refine WL.run 1 tt_ok sg0 rfl rfl trivial ?_
  obtain ⟨x1, hx1, H⟩ := of_bind H
  refine WL.call [] (octet_In_Num_s 0 rfl _ hx1) octet_In_Num_f rfl rfl ⟨rfl, trivial⟩ rfl rfl rfl ?_
  refine WL.run 1 tt_ok sg0 rfl rfl trivial ?_
  refine WL.nil ?_
  refine QT.n ?_
  refine WC.seq ?_
  refine WC.region ?_
  refine WL.run 9 tt_ok sg0 rfl rfl trivial ?_
  refine WL.nil ?_
  refine QT.n ?_
  refine WC.ret ?_
  cases H
  exact Ends.auto rfl rfl rfl ⟨rfl, trivial⟩
theorem octet_In_Int_s (n0 : Nat) (hn : nodupB [n0] = true) (a0 : T_octet_In) {r : Int × T_octet_In} (H : octet_In_Int a0 = some r) : LJ.Spec Try.prog 11 [.ptr n0 0] [(n0, .box 59 [.d (.str a0.s), .d (.int .i64 a0.at_), .d (.int .i64 a0.err)])] (.d (.int .i64 r.1)) [(n0, .box 59 [.d (.str r.2.s), .d (.int .i64 r.2.at_), .d (.int .i64 r.2.err)])] :=
  Spec.names [n0] hn rfl rfl (octet_In_Int_0 a0 H)
theorem octet_In_Int_f : hasFunc Try.prog 11 Try.f11 := ⟨Try.func11, rfl, by kernel_rfl⟩

/-! ### (*logjam/octet.Out).Num -/
theorem octet_Out_Num_0 (a0 : T_octet_Out) (a1 : Int) {r : T_octet_Out} (H : octet_Out_Num a0 a1 = some r) : LJ.Spec Try.prog 12 [.ptr 0 0, .d (.int .u64 a1)] [(0, .box 27 [.own 1]), (1, .row 5 1 (rowOf a0.b))] (.tup []) [(1, .row 5 1 (rowOf r.b)), (0, .box 27 [.own 1])] := by
  refine LJ.Spec.code Try.func12 rfl 33 rfl rfl [0] rfl fun w0 F0 S0 B0 => ?_
  unfold octet_Out_Num at H
  refine WC.seq ?_
  refine WC.seq ?_
  refine WC.region ?_
  refine WL.run 2 tt_ok sg0 rfl rfl trivial ?_
  refine WL.nil ?_
  refine QT.n ?_
  refine WC.cond rfl (fun h => absurd h (by decide)) (fun h => ?_)
  refine WC.skip ?_
  refine QT.n ?_
  obtain ⟨K1, hK1, H⟩ := of_withK H
  refine WC.cut (fun E m => ∃ s2 : Int × ByteArray, K1 s2 = some r ∧ LessW E m [(0, .ptr 0 0), (1, .d (.int .u64 s2.1))] [(0, .box 27 [.own 1]), (1, .row 5 1 (rowOf s2.2))]) ?_ ?_
  · refine WC.block ?_
    refine WC.loop (ι := {x : Nat × (Int × ByteArray) // octet_Out_Num_l4 K1 x.1 x.2 = some r}) (fun x => [(0, .ptr 0 0), (1, .d (.int .u64 x.1.2.1))]) (fun x => [(0, .box 27 [.own 1]), (1, .row 5 1 (rowOf x.1.2.2))]) (fun x => x.1.1) ⟨(fuel, (a1, a0.b)), H⟩ (Less.mk' ⟨rfl, rfl, trivial⟩ ⟨rfl, rfl, trivial⟩) fun x => ?_
    obtain ⟨⟨k4, s3⟩, H⟩ := x
    rcases k4 with _ | k4
    · exact of_none H
    rw [octet_Out_Num_l4] at H
    refine WC.seq ?_
    refine WC.seq ?_
    refine WC.region ?_
    refine WL.run 2 tt_ok sg0 rfl rfl trivial ?_
    refine WL.nil ?_
    refine QT.n ?_
    refine WC.cond rfl (fun h5 => ?_) (fun h5 => ?_)
    · replace H := of_t H h5
      refine WC.skip ?_
      refine QT.n ?_
      refine WC.block ?_
      refine WC.seq ?_
      refine WC.region ?_
      refine WL.run 8 tt_ok sg0 rfl rfl trivial ?_
      refine WL.eff 116 tt_ok et_ok eg0 rfl rfl rfl trivial ?_
      obtain ⟨g6, H⟩ := of_need H
      obtain ⟨g7, H⟩ := of_need H
      refine WL.eff 0 tt_ok et_ok eg0 rfl rfl rfl (appOK_bytes rfl (nCap_ok g6)) ?_
      refine WL.row 1 (rowOf (s3.2.push (UInt8.ofNat (Go.bits .or .u8 (IntKind.u8.wrap s3.1) 128).toNat))) rfl (rowOf_one (nIn_ok g7).1 (nIn_ok g7).2) rfl ?_
      refine WL.run 2 tt_ok sg0 rfl rfl trivial ?_
      refine WL.eff 0 tt_ok et_ok eg0 rfl rfl rfl trivial ?_
      refine WL.nil ?_
      refine QT.n ?_
      refine WC.region ?_
      refine WL.run 3 tt_ok sg0 rfl rfl trivial ?_
      refine WL.nil ?_
      refine QB.n (QT.n ?_)
      exact ⟨⟨(k4, (s3.1 / 2 ^ min (7 : Int).toNat IntKind.u64.bits, s3.2.push (UInt8.ofNat (Go.bits .or .u8 (IntKind.u8.wrap s3.1) 128).toNat))), H⟩, Nat.lt_succ_self _, Less.mk' ⟨rfl, rfl, trivial⟩ ⟨rfl, rfl, trivial⟩⟩
    replace H := of_f H h5
    refine WC.exit ?_
    refine QT.x (QT.x (QB.hit (QT.n ?_)))
    exact ⟨(s3.1, s3.2), H, LessW.mk' ⟨AVle.of rfl, AVle.of rfl, trivial⟩ ⟨rfl, rfl, trivial⟩⟩
  · rintro E m ⟨s2, H, hl⟩
    refine WC.lessW hl ?_
    replace H := (hK1 _).symm.trans H
    try dsimp only at H
    refine WC.region ?_
    refine WL.run 7 tt_ok sg0 rfl rfl trivial ?_
    refine WL.eff 129 tt_ok et_ok eg0 rfl rfl rfl trivial ?_
    obtain ⟨g8, H⟩ := of_need H
    obtain ⟨g9, H⟩ := of_need H
    refine WL.eff 0 tt_ok et_ok eg0 rfl rfl rfl (appOK_bytes rfl (nCap_ok g8)) ?_
    refine WL.row 1 (rowOf (s2.2.push (UInt8.ofNat (IntKind.u8.wrap s2.1).toNat))) rfl (rowOf_one (nIn_ok g9).1 (nIn_ok g9).2) rfl ?_
    refine WL.run 2 tt_ok sg0 rfl rfl trivial ?_
    refine WL.eff 0 tt_ok et_ok eg0 rfl rfl rfl trivial ?_
    refine WL.nil ?_
    cases H
    exact Ends.auton rfl rfl rfl ⟨rfl, rfl, trivial⟩
theorem octet_Out_Num_s (n0 n1 : Nat) (hn : nodupB [n0, n1] = true) (a0 : T_octet_Out) (a1 : Int) {r : T_octet_Out} (H : octet_Out_Num a0 a1 = some r) : LJ.Spec Try.prog 12 [.ptr n0 0, .d (.int .u64 a1)] [(n0, .box 27 [.own n1]), (n1, .row 5 1 (rowOf a0.b))] (.tup []) [(n1, .row 5 1 (rowOf r.b)), (n0, .box 27 [.own n1])] :=
  Spec.names [n0, n1] hn rfl rfl (octet_Out_Num_0 a0 a1 H)
theorem octet_Out_Num_f : hasFunc Try.prog 12 Try.f12 := ⟨Try.func12, rfl, by kernel_rfl⟩

/-! ### (*logjam/octet.Out).Int -/
theorem octet_Out_Int_0 (a0 : T_octet_Out) (a1 : Int) {r : T_octet_Out} (H : octet_Out_Int a0 a1 = some r) : LJ.Spec Try.prog 10 [.ptr 0 0, .d (.int .i64 a1)] [(0, .box 27 [.own 1]), (1, .row 5 1 (rowOf a0.b))] (.tup []) [(1, .row 5 1 (rowOf r.b)), (0, .box 27 [.own 1])] := by
  refine LJ.Spec.code Try.func10 rfl 13 rfl rfl [0] rfl fun w0 F0 S0 B0 => ?_
  unfold octet_Out_Int at H
  refine WC.region ?_
  refine WL.run 8 tt_ok sg0 rfl rfl trivial ?_
  obtain ⟨x1, hx1, H⟩ := of_bind H
  refine WL.call [1] (octet_Out_Num_s 0 1 rfl _ _ hx1) octet_Out_Num_f rfl rfl ⟨rfl, rfl, trivial⟩ rfl rfl rfl ?_
  refine WL.nil ?_
  cases H
  exact Ends.auton rfl rfl rfl ⟨rfl, rfl, trivial⟩
theorem octet_Out_Int_s (n0 n1 : Nat) (hn : nodupB [n0, n1] = true) (a0 : T_octet_Out) (a1 : Int) {r : T_octet_Out} (H : octet_Out_Int a0 a1 = some r) : LJ.Spec Try.prog 10 [.ptr n0 0, .d (.int .i64 a1)] [(n0, .box 27 [.own n1]), (n1, .row 5 1 (rowOf a0.b))] (.tup []) [(n1, .row 5 1 (rowOf r.b)), (n0, .box 27 [.own n1])] :=
  Spec.names [n0, n1] hn rfl rfl (octet_Out_Int_0 a0 a1 H)
theorem octet_Out_Int_f : hasFunc Try.prog 10 Try.f10 := ⟨Try.func10, rfl, by kernel_rfl⟩

/-! ### (*logjam/octet.In).Err -/
theorem octet_In_Err_0 (a0 : T_octet_In) {r : Int} (H : octet_In_Err a0 = some r) : LJ.Spec Try.prog 14 [.ptr 0 0] [(0, .box 59 [.d (.str a0.s), .d (.int .i64 a0.at_), .d (.int .i64 a0.err)])] (.d (.int .i64 r)) [(0, .box 59 [.d (.str a0.s), .d (.int .i64 a0.at_), .d (.int .i64 a0.err)])] := by
  refine LJ.Spec.code Try.func14 rfl 9 rfl rfl [0] rfl fun w0 F0 S0 B0 => ?_
  unfold octet_In_Err at H
  refine WC.seq ?_
  refine WC.region ?_
  refine WL.run 1 tt_ok sg0 rfl rfl trivial ?_
  refine WL.nil ?_
  refine QT.n ?_
  refine WC.seq ?_
  refine WC.seq ?_
  refine WC.region ?_
  refine WL.run 2 tt_ok sg0 rfl rfl trivial ?_
  refine WL.nil ?_
  refine QT.n ?_
  refine WC.cond rfl (fun h => absurd h (by decide)) (fun h => ?_)
  refine WC.skip ?_
  refine QT.n ?_
  refine WC.seq ?_
  refine WC.region ?_
  refine WL.run 5 tt_ok sg0 rfl rfl trivial ?_
  refine WL.nil ?_
  refine QT.n ?_
  refine WC.ret ?_
  cases H
  exact Ends.auto rfl rfl rfl ⟨rfl, trivial⟩
theorem octet_In_Err_s (n0 : Nat) (hn : nodupB [n0] = true) (a0 : T_octet_In) {r : Int} (H : octet_In_Err a0 = some r) : LJ.Spec Try.prog 14 [.ptr n0 0] [(n0, .box 59 [.d (.str a0.s), .d (.int .i64 a0.at_), .d (.int .i64 a0.err)])] (.d (.int .i64 r)) [(n0, .box 59 [.d (.str a0.s), .d (.int .i64 a0.at_), .d (.int .i64 a0.err)])] :=
  Spec.names [n0] hn rfl rfl (octet_In_Err_0 a0 H)
theorem octet_In_Err_f : hasFunc Try.prog 14 Try.f14 := ⟨Try.func14, rfl, by kernel_rfl⟩

/-! ### (*logjam/octet.Out).Done -/
theorem octet_Out_Done_0 (a0 : T_octet_Out) {r : ByteArray} (H : octet_Out_Done a0 = some r) : LJ.Spec Try.prog 17 [.ptr 0 0] [(0, .box 27 [.own 1]), (1, .row 5 1 (rowOf a0.b))] (.d (.str r)) [(1, .row 5 1 (rowOf a0.b)), (0, .box 27 [.own 1])] := by
  refine LJ.Spec.code Try.func17 rfl 10 rfl rfl [0] rfl fun w0 F0 S0 B0 => ?_
  unfold octet_Out_Done at H
  refine WC.seq ?_
  refine WC.region ?_
  refine WL.run 1 tt_ok sg0 rfl rfl trivial ?_
  refine WL.nil ?_
  refine QT.n ?_
  refine WC.seq ?_
  refine WC.seq ?_
  refine WC.region ?_
  refine WL.run 2 tt_ok sg0 rfl rfl trivial ?_
  refine WL.nil ?_
  refine QT.n ?_
  refine WC.cond rfl (fun h => absurd h (by decide)) (fun h => ?_)
  refine WC.skip ?_
  refine QT.n ?_
  refine WC.seq ?_
  refine WC.region ?_
  refine WL.run 4 tt_ok sg0 rfl rfl trivial ?_
  refine WL.ownStr a0.b tt_ok rfl rfl rfl rfl ?_
  refine WL.run 1 tt_ok sg0 rfl rfl trivial ?_
  refine WL.nil ?_
  refine QT.n ?_
  refine WC.ret ?_
  cases H
  exact Ends.auto rfl rfl rfl ⟨rfl, rfl, trivial⟩
theorem octet_Out_Done_s (n0 n1 : Nat) (hn : nodupB [n0, n1] = true) (a0 : T_octet_Out) {r : ByteArray} (H : octet_Out_Done a0 = some r) : LJ.Spec Try.prog 17 [.ptr n0 0] [(n0, .box 27 [.own n1]), (n1, .row 5 1 (rowOf a0.b))] (.d (.str r)) [(n1, .row 5 1 (rowOf a0.b)), (n0, .box 27 [.own n1])] :=
  Spec.names [n0, n1] hn rfl rfl (octet_Out_Done_0 a0 H)
theorem octet_Out_Done_f : hasFunc Try.prog 17 Try.f17 := ⟨Try.func17, rfl, by kernel_rfl⟩

/-! ### (*logjam/octet.In).Left -/
theorem octet_In_Left_0 (a0 : T_octet_In) {r : Int} (H : octet_In_Left a0 = some r) : LJ.Spec Try.prog 16 [.ptr 0 0] [(0, .box 59 [.d (.str a0.s), .d (.int .i64 a0.at_), .d (.int .i64 a0.err)])] (.d (.int .i64 r)) [(0, .box 59 [.d (.str a0.s), .d (.int .i64 a0.at_), .d (.int .i64 a0.err)])] := by
  refine LJ.Spec.code Try.func16 rfl 15 rfl rfl [0] rfl fun w0 F0 S0 B0 => ?_
  unfold octet_In_Left at H
  refine WC.seq ?_
  refine WC.region ?_
  refine WL.run 1 tt_ok sg0 rfl rfl trivial ?_
  refine WL.nil ?_
  refine QT.n ?_
  refine WC.seq ?_
  refine WC.seq ?_
  refine WC.region ?_
  refine WL.run 2 tt_ok sg0 rfl rfl trivial ?_
  refine WL.nil ?_
  refine QT.n ?_
  refine WC.cond rfl (fun h => absurd h (by decide)) (fun h => ?_)
  refine WC.skip ?_
  refine QT.n ?_
  refine WC.seq ?_
  refine WC.heldP (.one 0 true (.one 1 true (.one 2 true (.one 3 true (.one 4 true (.one 5 true (.one 6 true (.one 7 true (.one 8 true (.one 9 true (.one 10 true .done))))))))))) [0] [0] rfl (by kernel_rfl) rfl (by kernel_rfl) rfl rfl (fun _ h => h) rfl rfl rfl (fun _ _ _ h => h) fun FK NK wK K => ?_
  refine WH.run 11 tt_ok rfl rfl rfl rfl trivial ?_
  refine WH.nil rfl ?_
  refine QT.n ?_
  refine WC.ret ?_
  cases H
  exact Ends.auto rfl rfl rfl ⟨rfl, trivial⟩
theorem octet_In_Left_s (n0 : Nat) (hn : nodupB [n0] = true) (a0 : T_octet_In) {r : Int} (H : octet_In_Left a0 = some r) : LJ.Spec Try.prog 16 [.ptr n0 0] [(n0, .box 59 [.d (.str a0.s), .d (.int .i64 a0.at_), .d (.int .i64 a0.err)])] (.d (.int .i64 r)) [(n0, .box 59 [.d (.str a0.s), .d (.int .i64 a0.at_), .d (.int .i64 a0.err)])] :=
  Spec.names [n0] hn rfl rfl (octet_In_Left_0 a0 H)
theorem octet_In_Left_f : hasFunc Try.prog 16 Try.f16 := ⟨Try.func16, rfl, by kernel_rfl⟩

/-! ### logjam/logjamlaw01.lives -/
theorem law01_lives_0  {r : Bool} (H : law01_lives = some r) : LJ.Spec Try.prog 15 [] [] (.d (.bool r)) [] := by
  refine LJ.Spec.code Try.func15 rfl 47 rfl rfl [] rfl fun w0 F0 S0 B0 => ?_
  unfold law01_lives at H
  refine WC.seq ?_
  refine WC.region ?_
  refine WL.run 1 tt_ok sg0 rfl rfl trivial ?_
  refine WL.nil ?_
  refine QT.n ?_
  refine WC.seq ?_
  refine WC.region ?_
  refine WL.run 1 tt_ok sg0 rfl rfl trivial ?_
  refine WL.eff 104 tt_ok et_ok eg0 rfl rfl rfl trivial ?_
  refine WL.run 1 tt_ok sg0 rfl rfl trivial ?_
  refine WL.nil ?_
  refine QT.n ?_
  refine WC.seq ?_
  refine WC.region ?_
  refine WL.run 1 tt_ok sg0 rfl rfl trivial ?_
  refine WL.nilF 104 0 4040 5 1 rfl ?_
  refine WL.row 4040 (rowOf ByteArray.empty) rfl rfl rfl ?_
  obtain ⟨x1, hx1, H⟩ := of_bind H
  refine WL.call [4040] (octet_Out_Num_s 104 4040 rfl _ _ hx1) octet_Out_Num_f rfl rfl ⟨rfl, rfl, trivial⟩ rfl rfl rfl ?_
  refine WL.nil ?_
  refine QT.n ?_
  refine WC.seq ?_
  refine WC.region ?_
  refine WL.run 1 tt_ok sg0 rfl rfl trivial ?_
  obtain ⟨x2, hx2, H⟩ := of_bind H
  refine WL.call [4040] (octet_Out_Int_s 104 4040 rfl _ _ hx2) octet_Out_Int_f rfl rfl ⟨rfl, rfl, trivial⟩ rfl rfl rfl ?_
  refine WL.nil ?_
  refine QT.n ?_
  refine WC.seq ?_
  refine WC.region ?_
  refine WL.run 1 tt_ok sg0 rfl rfl trivial ?_
  obtain ⟨x3, hx3, H⟩ := of_bind H
  refine WL.call [4040] (octet_Out_Done_s 104 4040 rfl _ hx3) octet_Out_Done_f rfl rfl ⟨rfl, rfl, trivial⟩ rfl rfl rfl ?_
  obtain ⟨x4, hx4, H⟩ := of_bind H
  refine WL.call [2110] (octet_Open_s 2110 rfl _ hx4) octet_Open_f rfl rfl trivial rfl rfl rfl ?_
  refine WL.run 1 tt_ok sg0 rfl rfl trivial ?_
  refine WL.nil ?_
  refine QT.n ?_
  refine WC.seq ?_
  refine WC.seq ?_
  refine WC.region ?_
  refine WL.run 2 tt_ok sg0 rfl rfl trivial ?_
  refine WL.nil ?_
  refine QT.n ?_
  refine WC.cond rfl (fun h => absurd h (by decide)) (fun h => ?_)
  refine WC.skip ?_
  refine QT.n ?_
  refine WC.seq ?_
  refine WC.region ?_
  refine WL.run 1 tt_ok sg0 rfl rfl trivial ?_
  obtain ⟨x5, hx5, H⟩ := of_bind H
  refine WL.call [4040] (octet_Out_Done_s 104 4040 rfl _ hx5) octet_Out_Done_f rfl rfl ⟨rfl, rfl, trivial⟩ rfl rfl rfl ?_
  refine WL.run 2 tt_ok sg0 rfl rfl trivial ?_
  refine WL.split (g := 17) rfl (fun h6 => ?_) (fun h6 => ?_)
  · replace H := of_t H h6
    refine WL.grun 1 3 true 17 tt_ok sg0 rfl rfl rfl rfl trivial ?_
    obtain ⟨x7, hx7, H⟩ := of_bind H
    refine WL.gcall [] (octet_In_Num_s 2110 rfl _ hx7) octet_In_Num_f rfl rfl ⟨rfl, trivial⟩ rfl rfl rfl rfl rfl rfl ?_
    refine WL.grun 1 3 true 17 tt_ok sg0 rfl rfl rfl rfl trivial ?_
    refine WL.pickT rfl rfl rfl rfl rfl rfl ?_
    refine WL.run 1 tt_ok sg0 rfl rfl trivial ?_
    refine WL.split (g := 22) rfl (fun h8 => ?_) (fun h8 => ?_)
    · replace H := of_t H h8
      refine WL.grun 1 8 true 22 tt_ok sg0 rfl rfl rfl rfl trivial ?_
      obtain ⟨x9, hx9, H⟩ := of_bind H
      refine WL.gcall [] (octet_In_Int_s 2110 rfl _ hx9) octet_In_Int_f rfl rfl ⟨rfl, trivial⟩ rfl rfl rfl rfl rfl rfl ?_
      refine WL.grun 1 8 true 22 tt_ok sg0 rfl rfl rfl rfl trivial ?_
      refine WL.pickT rfl rfl rfl rfl rfl rfl ?_
      refine WL.run 1 tt_ok sg0 rfl rfl trivial ?_
      refine WL.split (g := 27) rfl (fun h10 => ?_) (fun h10 => ?_)
      · replace H := of_t H h10
        refine WL.grun 1 13 true 27 tt_ok sg0 rfl rfl rfl rfl trivial ?_
        obtain ⟨x11, hx11, H⟩ := of_bind H
        refine WL.gcall [] (octet_In_Left_s 2110 rfl _ hx11) octet_In_Left_f rfl rfl ⟨rfl, trivial⟩ rfl rfl rfl rfl rfl rfl ?_
        refine WL.grun 1 13 true 27 tt_ok sg0 rfl rfl rfl rfl trivial ?_
        refine WL.pickT rfl rfl rfl rfl rfl rfl ?_
        refine WL.run 1 tt_ok sg0 rfl rfl trivial ?_
        refine WL.split (g := 32) rfl (fun h12 => ?_) (fun h12 => ?_)
        · replace H := of_t H h12
          refine WL.grun 1 18 true 32 tt_ok sg0 rfl rfl rfl rfl trivial ?_
          obtain ⟨x13, hx13, H⟩ := of_bind H
          refine WL.gcall [] (octet_In_Err_s 2110 rfl _ hx13) octet_In_Err_f rfl rfl ⟨rfl, trivial⟩ rfl rfl rfl rfl rfl rfl ?_
          refine WL.grun 1 18 true 32 tt_ok sg0 rfl rfl rfl rfl trivial ?_
          refine WL.pickT rfl rfl rfl rfl rfl rfl ?_
          refine WL.run 1 tt_ok sg0 rfl rfl trivial ?_
          refine WL.split (g := 37) rfl (fun h14 => ?_) (fun h14 => ?_)
          · replace H := of_t H h14
            refine WL.grun 1 23 true 37 tt_ok sg0 rfl rfl rfl rfl trivial ?_
            obtain ⟨x15, hx15, H⟩ := of_bind H
            refine WL.gcall [] (octet_In_Byte_s 2110 rfl _ hx15) octet_In_Byte_f rfl rfl ⟨rfl, trivial⟩ rfl rfl rfl rfl rfl rfl ?_
            refine WL.grun 1 23 true 37 tt_ok sg0 rfl rfl rfl rfl trivial ?_
            refine WL.pickT rfl rfl rfl rfl rfl rfl ?_
            refine WL.run 1 tt_ok sg0 rfl rfl trivial ?_
            refine WL.split (g := 42) rfl (fun h16 => ?_) (fun h16 => ?_)
            · replace H := of_t H h16
              refine WL.grun 1 28 true 42 tt_ok sg0 rfl rfl rfl rfl trivial ?_
              obtain ⟨x17, hx17, H⟩ := of_bind H
              refine WL.gcall [] (octet_In_Err_s 2110 rfl _ hx17) octet_In_Err_f rfl rfl ⟨rfl, trivial⟩ rfl rfl rfl rfl rfl rfl ?_
              refine WL.grun 1 28 true 42 tt_ok sg0 rfl rfl rfl rfl trivial ?_
              refine WL.pickT rfl rfl rfl rfl rfl rfl ?_
              refine WL.run 1 tt_ok sg0 rfl rfl trivial ?_
              refine WL.nil ?_
              refine QT.n ?_
              refine WC.ret ?_
              cases H
              exact Ends.auto rfl rfl rfl trivial
            · replace H := of_f H h16
              refine WL.gskips 3 28 true 42 rfl rfl rfl rfl ?_
              refine WL.pickF rfl rfl rfl rfl rfl rfl ?_
              refine WL.run 1 tt_ok sg0 rfl rfl trivial ?_
              refine WL.nil ?_
              refine QT.n ?_
              refine WC.ret ?_
              cases H
              exact Ends.auto rfl rfl rfl trivial
          · replace H := of_f H h14
            refine WL.gskips 3 23 true 37 rfl rfl rfl rfl ?_
            refine WL.pickF rfl rfl rfl rfl rfl rfl ?_
            refine WL.run 1 tt_ok sg0 rfl rfl trivial ?_
            refine WL.gskips 3 28 true 42 rfl rfl rfl rfl ?_
            refine WL.pickF rfl rfl rfl rfl rfl rfl ?_
            refine WL.run 1 tt_ok sg0 rfl rfl trivial ?_
            refine WL.nil ?_
            refine QT.n ?_
            refine WC.ret ?_
            cases H
            exact Ends.auto rfl rfl rfl trivial
        · replace H := of_f H h12
          refine WL.gskips 3 18 true 32 rfl rfl rfl rfl ?_
          refine WL.pickF rfl rfl rfl rfl rfl rfl ?_
          refine WL.run 1 tt_ok sg0 rfl rfl trivial ?_
          refine WL.gskips 3 23 true 37 rfl rfl rfl rfl ?_
          refine WL.pickF rfl rfl rfl rfl rfl rfl ?_
          refine WL.run 1 tt_ok sg0 rfl rfl trivial ?_
          refine WL.gskips 3 28 true 42 rfl rfl rfl rfl ?_
          refine WL.pickF rfl rfl rfl rfl rfl rfl ?_
          refine WL.run 1 tt_ok sg0 rfl rfl trivial ?_
          refine WL.nil ?_
          refine QT.n ?_
          refine WC.ret ?_
          cases H
          exact Ends.auto rfl rfl rfl trivial
      · replace H := of_f H h10
        refine WL.gskips 3 13 true 27 rfl rfl rfl rfl ?_
        refine WL.pickF rfl rfl rfl rfl rfl rfl ?_
        refine WL.run 1 tt_ok sg0 rfl rfl trivial ?_
        refine WL.gskips 3 18 true 32 rfl rfl rfl rfl ?_
        refine WL.pickF rfl rfl rfl rfl rfl rfl ?_
        refine WL.run 1 tt_ok sg0 rfl rfl trivial ?_
        refine WL.gskips 3 23 true 37 rfl rfl rfl rfl ?_
        refine WL.pickF rfl rfl rfl rfl rfl rfl ?_
        refine WL.run 1 tt_ok sg0 rfl rfl trivial ?_
        refine WL.gskips 3 28 true 42 rfl rfl rfl rfl ?_
        refine WL.pickF rfl rfl rfl rfl rfl rfl ?_
        refine WL.run 1 tt_ok sg0 rfl rfl trivial ?_
        refine WL.nil ?_
        refine QT.n ?_
        refine WC.ret ?_
        cases H
        exact Ends.auto rfl rfl rfl trivial
    · replace H := of_f H h8
      refine WL.gskips 3 8 true 22 rfl rfl rfl rfl ?_
      refine WL.pickF rfl rfl rfl rfl rfl rfl ?_
      refine WL.run 1 tt_ok sg0 rfl rfl trivial ?_
      refine WL.gskips 3 13 true 27 rfl rfl rfl rfl ?_
      refine WL.pickF rfl rfl rfl rfl rfl rfl ?_
      refine WL.run 1 tt_ok sg0 rfl rfl trivial ?_
      refine WL.gskips 3 18 true 32 rfl rfl rfl rfl ?_
      refine WL.pickF rfl rfl rfl rfl rfl rfl ?_
      refine WL.run 1 tt_ok sg0 rfl rfl trivial ?_
      refine WL.gskips 3 23 true 37 rfl rfl rfl rfl ?_
      refine WL.pickF rfl rfl rfl rfl rfl rfl ?_
      refine WL.run 1 tt_ok sg0 rfl rfl trivial ?_
      refine WL.gskips 3 28 true 42 rfl rfl rfl rfl ?_
      refine WL.pickF rfl rfl rfl rfl rfl rfl ?_
      refine WL.run 1 tt_ok sg0 rfl rfl trivial ?_
      refine WL.nil ?_
      refine QT.n ?_
      refine WC.ret ?_
      cases H
      exact Ends.auto rfl rfl rfl trivial
  · replace H := of_f H h6
    refine WL.gskips 3 3 true 17 rfl rfl rfl rfl ?_
    refine WL.pickF rfl rfl rfl rfl rfl rfl ?_
    refine WL.run 1 tt_ok sg0 rfl rfl trivial ?_
    refine WL.gskips 3 8 true 22 rfl rfl rfl rfl ?_
    refine WL.pickF rfl rfl rfl rfl rfl rfl ?_
    refine WL.run 1 tt_ok sg0 rfl rfl trivial ?_
    refine WL.gskips 3 13 true 27 rfl rfl rfl rfl ?_
    refine WL.pickF rfl rfl rfl rfl rfl rfl ?_
    refine WL.run 1 tt_ok sg0 rfl rfl trivial ?_
    refine WL.gskips 3 18 true 32 rfl rfl rfl rfl ?_
    refine WL.pickF rfl rfl rfl rfl rfl rfl ?_
    refine WL.run 1 tt_ok sg0 rfl rfl trivial ?_
    refine WL.gskips 3 23 true 37 rfl rfl rfl rfl ?_
    refine WL.pickF rfl rfl rfl rfl rfl rfl ?_
    refine WL.run 1 tt_ok sg0 rfl rfl trivial ?_
    refine WL.gskips 3 28 true 42 rfl rfl rfl rfl ?_
    refine WL.pickF rfl rfl rfl rfl rfl rfl ?_
    refine WL.run 1 tt_ok sg0 rfl rfl trivial ?_
    refine WL.nil ?_
    refine QT.n ?_
    refine WC.ret ?_
    cases H
    exact Ends.auto rfl rfl rfl trivial
theorem law01_lives_f : hasFunc Try.prog 15 Try.f15 := ⟨Try.func15, rfl, by kernel_rfl⟩

/-! ### (*logjam/octet.Out).Byte -/
theorem octet_Out_Byte_0 (a0 : T_octet_Out) (a1 : Int) {r : T_octet_Out} (H : octet_Out_Byte a0 a1 = some r) : LJ.Spec Try.prog 26 [.ptr 0 0, .d (.int .i64 a1)] [(0, .box 27 [.own 1]), (1, .row 5 1 (rowOf a0.b))] (.tup []) [(1, .row 5 1 (rowOf r.b)), (0, .box 27 [.own 1])] := by
  refine LJ.Spec.code Try.func26 rfl 17 rfl rfl [0] rfl fun w0 F0 S0 B0 => ?_
  unfold octet_Out_Byte at H
  refine WC.seq ?_
  refine WC.region ?_
  refine WL.run 2 tt_ok sg0 rfl rfl trivial ?_
  refine WL.nil ?_
  refine QT.n ?_
  refine WC.cond rfl (fun h => ?_) (fun h => absurd h (by decide))
  refine WC.region ?_
  refine WL.run 7 tt_ok sg0 rfl rfl trivial ?_
  refine WL.eff 113 tt_ok et_ok eg0 rfl rfl rfl trivial ?_
  obtain ⟨g1, H⟩ := of_need H
  obtain ⟨g2, H⟩ := of_need H
  refine WL.eff 0 tt_ok et_ok eg0 rfl rfl rfl (appOK_bytes rfl (nCap_ok g1)) ?_
  refine WL.row 1 (rowOf (a0.b.push (UInt8.ofNat (IntKind.u8.wrap a1).toNat))) rfl (rowOf_one (nIn_ok g2).1 (nIn_ok g2).2) rfl ?_
  refine WL.run 2 tt_ok sg0 rfl rfl trivial ?_
  refine WL.eff 0 tt_ok et_ok eg0 rfl rfl rfl trivial ?_
  refine WL.nil ?_
  cases H
  exact Ends.auton rfl rfl rfl ⟨rfl, rfl, trivial⟩
theorem octet_Out_Byte_s (n0 n1 : Nat) (hn : nodupB [n0, n1] = true) (a0 : T_octet_Out) (a1 : Int) {r : T_octet_Out} (H : octet_Out_Byte a0 a1 = some r) : LJ.Spec Try.prog 26 [.ptr n0 0, .d (.int .i64 a1)] [(n0, .box 27 [.own n1]), (n1, .row 5 1 (rowOf a0.b))] (.tup []) [(n1, .row 5 1 (rowOf r.b)), (n0, .box 27 [.own n1])] :=
  Spec.names [n0, n1] hn rfl rfl (octet_Out_Byte_0 a0 a1 H)
theorem octet_Out_Byte_f : hasFunc Try.prog 26 Try.f26 := ⟨Try.func26, rfl, by kernel_rfl⟩

/-! ### (*logjam/octet.Out).Text -/
theorem octet_Out_Text_0 (a0 : T_octet_Out) (a1 : ByteArray) {r : T_octet_Out} (H : octet_Out_Text a0 a1 = some r) : LJ.Spec Try.prog 27 [.ptr 0 0, .d (.str a1)] [(0, .box 27 [.own 1]), (1, .row 5 1 (rowOf a0.b))] (.tup []) [(1, .row 5 1 (rowOf r.b)), (0, .box 27 [.own 1])] := by
  refine LJ.Spec.code Try.func27 rfl 20 rfl rfl [0] rfl fun w0 F0 S0 B0 => ?_
  unfold octet_Out_Text at H
  refine WC.seq ?_
  refine WC.seq ?_
  refine WC.region ?_
  refine WL.run 2 tt_ok sg0 rfl rfl trivial ?_
  refine WL.nil ?_
  refine QT.n ?_
  refine WC.cond rfl (fun h => absurd h (by decide)) (fun h => ?_)
  refine WC.skip ?_
  refine QT.n ?_
  refine WC.seq ?_
  refine WC.region ?_
  refine WL.run 4 tt_ok sg0 rfl rfl trivial ?_
  obtain ⟨x1, hx1, H⟩ := of_bind H
  refine WL.call [1] (octet_Out_Num_s 0 1 rfl _ _ hx1) octet_Out_Num_f rfl rfl ⟨rfl, rfl, trivial⟩ rfl rfl rfl ?_
  refine WL.nil ?_
  refine QT.n ?_
  refine WC.region ?_
  refine WL.run 6 tt_ok sg0 rfl rfl trivial ?_
  obtain ⟨g2, H⟩ := of_need H
  refine WL.apps tt_ok eb_ok rfl rfl rfl (apps_ok (nCap_ok g2)) ?_
  refine WL.row 1 (rowOf (x1.b ++ a1)) rfl (rowOf_append _ _).symm rfl ?_
  refine WL.run 2 tt_ok sg0 rfl rfl trivial ?_
  refine WL.eff 0 tt_ok et_ok eg0 rfl rfl rfl trivial ?_
  refine WL.nil ?_
  cases H
  exact Ends.auton rfl rfl rfl ⟨rfl, rfl, trivial⟩
theorem octet_Out_Text_s (n0 n1 : Nat) (hn : nodupB [n0, n1] = true) (a0 : T_octet_Out) (a1 : ByteArray) {r : T_octet_Out} (H : octet_Out_Text a0 a1 = some r) : LJ.Spec Try.prog 27 [.ptr n0 0, .d (.str a1)] [(n0, .box 27 [.own n1]), (n1, .row 5 1 (rowOf a0.b))] (.tup []) [(n1, .row 5 1 (rowOf r.b)), (n0, .box 27 [.own n1])] :=
  Spec.names [n0, n1] hn rfl rfl (octet_Out_Text_0 a0 a1 H)
theorem octet_Out_Text_f : hasFunc Try.prog 27 Try.f27 := ⟨Try.func27, rfl, by kernel_rfl⟩

/-! ### logjam/logjamlaw01.put -/
theorem law01_put_0 (a0 : T_octet_Out) (a1 : T_ref01_Op) {r : T_octet_Out} (H : law01_put a0 a1 = some r) : LJ.Spec Try.prog 18 [.ptr 0 0, .d (.agg [.int .i64 a1.Kind, .int .u64 a1.N, .int .i64 a1.I, .str a1.S])] [(0, .box 27 [.own 1]), (1, .row 5 1 (rowOf a0.b))] (.tup []) [(1, .row 5 1 (rowOf r.b)), (0, .box 27 [.own 1])] := by
  refine LJ.Spec.code Try.func18 rfl 30 rfl rfl [0] rfl fun w0 F0 S0 B0 => ?_
  unfold law01_put at H
  refine WC.seq ?_
  refine WC.region ?_
  refine WL.eff 103 tt_ok et_ok eg0 rfl rfl rfl trivial ?_
  refine WL.nil ?_
  refine QT.n ?_
  refine WC.seq ?_
  refine WC.region ?_
  refine WL.run 2 tt_ok sg0 rfl rfl trivial ?_
  refine WL.nil ?_
  refine QT.n ?_
  refine WC.block ?_
  refine WC.seq ?_
  refine WC.region ?_
  refine WL.run 2 tt_ok sg0 rfl rfl trivial ?_
  refine WL.nil ?_
  refine QT.n ?_
  refine WC.cond rfl (fun h1 => ?_) (fun h1 => ?_)
  · replace H := of_t H h1
    refine WC.region ?_
    refine WL.run 5 tt_ok sg0 rfl rfl trivial ?_
    obtain ⟨x2, hx2, H⟩ := of_bind H
    refine WL.call [1] (octet_Out_Byte_s 0 1 rfl _ _ hx2) octet_Out_Byte_f rfl rfl ⟨rfl, rfl, trivial⟩ rfl rfl rfl ?_
    refine WL.nil ?_
    refine QB.n ?_
    cases H
    exact Ends.auton rfl rfl rfl ⟨rfl, rfl, trivial⟩
  replace H := of_f H h1
  refine WC.seq ?_
  refine WC.region ?_
  refine WL.run 2 tt_ok sg0 rfl rfl trivial ?_
  refine WL.nil ?_
  refine QT.n ?_
  refine WC.cond rfl (fun h3 => ?_) (fun h3 => ?_)
  · replace H := of_t H h3
    refine WC.region ?_
    refine WL.run 3 tt_ok sg0 rfl rfl trivial ?_
    obtain ⟨x4, hx4, H⟩ := of_bind H
    refine WL.call [1] (octet_Out_Num_s 0 1 rfl _ _ hx4) octet_Out_Num_f rfl rfl ⟨rfl, rfl, trivial⟩ rfl rfl rfl ?_
    refine WL.nil ?_
    refine QB.n ?_
    cases H
    exact Ends.auton rfl rfl rfl ⟨rfl, rfl, trivial⟩
  replace H := of_f H h3
  refine WC.seq ?_
  refine WC.region ?_
  refine WL.run 2 tt_ok sg0 rfl rfl trivial ?_
  refine WL.nil ?_
  refine QT.n ?_
  refine WC.cond rfl (fun h5 => ?_) (fun h5 => ?_)
  · replace H := of_t H h5
    refine WC.region ?_
    refine WL.run 3 tt_ok sg0 rfl rfl trivial ?_
    obtain ⟨x6, hx6, H⟩ := of_bind H
    refine WL.call [1] (octet_Out_Int_s 0 1 rfl _ _ hx6) octet_Out_Int_f rfl rfl ⟨rfl, rfl, trivial⟩ rfl rfl rfl ?_
    refine WL.nil ?_
    refine QB.n ?_
    cases H
    exact Ends.auton rfl rfl rfl ⟨rfl, rfl, trivial⟩
  replace H := of_f H h5
  refine WC.region ?_
  refine WL.run 3 tt_ok sg0 rfl rfl trivial ?_
  obtain ⟨x7, hx7, H⟩ := of_bind H
  refine WL.call [1] (octet_Out_Text_s 0 1 rfl _ _ hx7) octet_Out_Text_f rfl rfl ⟨rfl, rfl, trivial⟩ rfl rfl rfl ?_
  refine WL.nil ?_
  refine QB.n ?_
  cases H
  exact Ends.auton rfl rfl rfl ⟨rfl, rfl, trivial⟩
theorem law01_put_s (n0 n1 : Nat) (hn : nodupB [n0, n1] = true) (a0 : T_octet_Out) (a1 : T_ref01_Op) {r : T_octet_Out} (H : law01_put a0 a1 = some r) : LJ.Spec Try.prog 18 [.ptr n0 0, .d (.agg [.int .i64 a1.Kind, .int .u64 a1.N, .int .i64 a1.I, .str a1.S])] [(n0, .box 27 [.own n1]), (n1, .row 5 1 (rowOf a0.b))] (.tup []) [(n1, .row 5 1 (rowOf r.b)), (n0, .box 27 [.own n1])] :=
  Spec.names [n0, n1] hn rfl rfl (law01_put_0 a0 a1 H)
theorem law01_put_f : hasFunc Try.prog 18 Try.f18 := ⟨Try.func18, rfl, by kernel_rfl⟩

/-! ### logjam/logjamref01.Num -/
theorem ref01_Num_0 (a0 : Int) {r : ByteArray} (H : ref01_Num a0 = some r) : LJ.Spec Try.prog 29 [.d (.int .u64 a0)] [] (.d (.str r)) [] := by
  refine LJ.Spec.code Try.func29 rfl 22 rfl rfl [] rfl fun w0 F0 S0 B0 => ?_
  unfold ref01_Num at H
  refine WC.seq ?_
  refine WC.region ?_
  refine WL.run 1 tt_ok sg0 rfl rfl trivial ?_
  refine WL.nil ?_
  refine QT.n ?_
  refine WC.seq ?_
  refine WC.region ?_
  refine WL.run 1 tt_ok sg0 rfl rfl trivial ?_
  refine WL.nil ?_
  refine QT.n ?_
  refine WC.seq ?_
  refine WC.block ?_
  refine WC.loop (ι := {x : Nat × (Int × ByteArray) // ref01_Num_l2 x.1 x.2 = some r}) (fun x => [(0, .d (.int .u64 x.1.2.1)), (3, .d (.str x.1.2.2))]) (fun x => []) (fun x => x.1.1) ⟨(fuel, (a0, ByteArray.empty)), H⟩ (Less.mk' ⟨rfl, rfl, trivial⟩ trivial) fun x => ?_
  obtain ⟨⟨k2, s1⟩, H⟩ := x
  rcases k2 with _ | k2
  · exact of_none H
  rw [ref01_Num_l2] at H
  refine WC.seq ?_
  refine WC.seq ?_
  refine WC.region ?_
  refine WL.run 2 tt_ok sg0 rfl rfl trivial ?_
  refine WL.nil ?_
  refine QT.n ?_
  refine WC.cond rfl (fun h3 => ?_) (fun h3 => ?_)
  · replace H := of_t H h3
    refine WC.skip ?_
    refine QT.n ?_
    refine WC.block ?_
    refine WC.seq ?_
    refine WC.region ?_
    refine WL.run 5 tt_ok sg0 rfl rfl trivial ?_
    refine WL.eff 111 tt_ok et_ok eg0 rfl rfl rfl trivial ?_
    obtain ⟨g4, H⟩ := of_need H
    refine WL.row 111 (rowOf (ByteArray.empty.push (UInt8.ofNat (IntKind.u8.wrap (IntKind.u64.wrap ((Int.tmod s1.1 128) + 128))).toNat))) rfl (rowOf_one (s := .empty) (nIn_ok g4).1 (nIn_ok g4).2) rfl ?_
    refine WL.ownStr (ByteArray.empty.push (UInt8.ofNat (IntKind.u8.wrap (IntKind.u64.wrap ((Int.tmod s1.1 128) + 128))).toNat)) tt_ok rfl rfl rfl rfl ?_
    obtain ⟨g5, H⟩ := of_need H
    refine WL.run 2 tt_ok sg0 rfl rfl ⟨(nStr_ok g5), trivial⟩ ?_
    refine WL.nil ?_
    refine QT.n ?_
    refine WC.region ?_
    refine WL.run 3 tt_ok sg0 rfl rfl trivial ?_
    refine WL.nil ?_
    refine QB.n (QT.n ?_)
    exact ⟨⟨(k2, (IntKind.u64.wrap (Int.tdiv s1.1 128), s1.2 ++ (ByteArray.empty.push (UInt8.ofNat (IntKind.u8.wrap (IntKind.u64.wrap ((Int.tmod s1.1 128) + 128))).toNat)))), H⟩, Nat.lt_succ_self _, Less.mk' ⟨rfl, rfl, trivial⟩ trivial⟩
  replace H := of_f H h3
  refine WC.exit ?_
  refine QT.x (QT.x (QB.hit (QT.n ?_)))
  refine WC.seq ?_
  refine WC.region ?_
  refine WL.run 3 tt_ok sg0 rfl rfl trivial ?_
  refine WL.eff 119 tt_ok et_ok eg0 rfl rfl rfl trivial ?_
  obtain ⟨g6, H⟩ := of_need H
  refine WL.row 119 (rowOf (ByteArray.empty.push (UInt8.ofNat (IntKind.u8.wrap s1.1).toNat))) rfl (rowOf_one (s := .empty) (nIn_ok g6).1 (nIn_ok g6).2) rfl ?_
  refine WL.ownStr (ByteArray.empty.push (UInt8.ofNat (IntKind.u8.wrap s1.1).toNat)) tt_ok rfl rfl rfl rfl ?_
  obtain ⟨g7, H⟩ := of_need H
  refine WL.run 2 tt_ok sg0 rfl rfl ⟨(nStr_ok g7), trivial⟩ ?_
  refine WL.nil ?_
  refine QT.n ?_
  refine WC.ret ?_
  cases H
  exact Ends.auto rfl rfl rfl trivial
theorem ref01_Num_f : hasFunc Try.prog 29 Try.f29 := ⟨Try.func29, rfl, by kernel_rfl⟩

/-! ### logjam/logjamref01.Int -/
theorem ref01_Int_0 (a0 : Int) {r : ByteArray} (H : ref01_Int a0 = some r) : LJ.Spec Try.prog 30 [.d (.int .i64 a0)] [] (.d (.str r)) [] := by
  refine LJ.Spec.code Try.func30 rfl 16 rfl rfl [] rfl fun w0 F0 S0 B0 => ?_
  unfold ref01_Int at H
  refine WC.seq ?_
  refine WC.region ?_
  refine WL.run 1 tt_ok sg0 rfl rfl trivial ?_
  refine WL.nil ?_
  refine QT.n ?_
  refine WC.seq ?_
  refine WC.seq ?_
  refine WC.region ?_
  refine WL.run 2 tt_ok sg0 rfl rfl trivial ?_
  refine WL.nil ?_
  refine QT.n ?_
  refine WC.cond rfl (fun h1 => ?_) (fun h1 => ?_)
  · replace H := of_t H h1
    refine WC.seq ?_
    refine WC.region ?_
    refine WL.run 3 tt_ok sg0 rfl rfl trivial ?_
    obtain ⟨x2, hx2, H⟩ := of_bind H
    refine WL.call [] (ref01_Num_0 _ hx2) ref01_Num_f rfl rfl trivial rfl rfl rfl ?_
    refine WL.run 1 tt_ok sg0 rfl rfl trivial ?_
    refine WL.nil ?_
    refine QT.n ?_
    refine WC.ret ?_
    refine QT.r ?_
    cases H
    exact Ends.auto rfl rfl rfl trivial
  replace H := of_f H h1
  refine WC.skip ?_
  refine QT.n ?_
  refine WC.seq ?_
  refine WC.region ?_
  refine WL.run 6 tt_ok sg0 rfl rfl trivial ?_
  obtain ⟨x3, hx3, H⟩ := of_bind H
  refine WL.call [] (ref01_Num_0 _ hx3) ref01_Num_f rfl rfl trivial rfl rfl rfl ?_
  refine WL.run 1 tt_ok sg0 rfl rfl trivial ?_
  refine WL.nil ?_
  refine QT.n ?_
  refine WC.ret ?_
  cases H
  exact Ends.auto rfl rfl rfl trivial
theorem ref01_Int_f : hasFunc Try.prog 30 Try.f30 := ⟨Try.func30, rfl, by kernel_rfl⟩

/-! ### logjam/logjamref01.Text -/
theorem ref01_Text_0 (a0 : ByteArray) {r : ByteArray} (H : ref01_Text a0 = some r) : LJ.Spec Try.prog 31 [.d (.str a0)] [] (.d (.str r)) [] := by
  refine LJ.Spec.code Try.func31 rfl 9 rfl rfl [] rfl fun w0 F0 S0 B0 => ?_
  unfold ref01_Text at H
  refine WC.seq ?_
  refine WC.region ?_
  refine WL.run 1 tt_ok sg0 rfl rfl trivial ?_
  refine WL.nil ?_
  refine QT.n ?_
  refine WC.seq ?_
  refine WC.region ?_
  refine WL.run 3 tt_ok sg0 rfl rfl trivial ?_
  obtain ⟨x1, hx1, H⟩ := of_bind H
  refine WL.call [] (ref01_Num_0 _ hx1) ref01_Num_f rfl rfl trivial rfl rfl rfl ?_
  obtain ⟨g2, H⟩ := of_need H
  refine WL.run 3 tt_ok sg0 rfl rfl ⟨(nStr_ok g2), trivial⟩ ?_
  refine WL.nil ?_
  refine QT.n ?_
  refine WC.ret ?_
  cases H
  exact Ends.auto rfl rfl rfl trivial
theorem ref01_Text_f : hasFunc Try.prog 31 Try.f31 := ⟨Try.func31, rfl, by kernel_rfl⟩

/-! ### logjam/logjamref01.Put -/
theorem ref01_Put_0 (a0 : T_ref01_Op) {r : ByteArray} (H : ref01_Put a0 = some r) : LJ.Spec Try.prog 19 [.d (.agg [.int .i64 a0.Kind, .int .u64 a0.N, .int .i64 a0.I, .str a0.S])] [] (.d (.str r)) [] := by
  refine LJ.Spec.code Try.func19 rfl 26 rfl rfl [] rfl fun w0 F0 S0 B0 => ?_
  unfold ref01_Put at H
  refine WC.seq ?_
  refine WC.region ?_
  refine WL.eff 101 tt_ok et_ok eg0 rfl rfl rfl trivial ?_
  refine WL.run 1 tt_ok sg0 rfl rfl trivial ?_
  refine WL.nil ?_
  refine QT.n ?_
  refine WC.seq ?_
  refine WC.seq ?_
  refine WC.region ?_
  refine WL.run 2 tt_ok sg0 rfl rfl trivial ?_
  refine WL.nil ?_
  refine QT.n ?_
  refine WC.block ?_
  refine WC.seq ?_
  refine WC.region ?_
  refine WL.run 2 tt_ok sg0 rfl rfl trivial ?_
  refine WL.nil ?_
  refine QT.n ?_
  refine WC.cond rfl (fun h1 => ?_) (fun h1 => ?_)
  · replace H := of_t H h1
    refine WC.seq ?_
    refine WC.region ?_
    refine WL.run 4 tt_ok sg0 rfl rfl trivial ?_
    refine WL.eff 111 tt_ok et_ok eg0 rfl rfl rfl trivial ?_
    obtain ⟨g2, H⟩ := of_need H
    refine WL.row 111 (rowOf (ByteArray.empty.push (UInt8.ofNat (IntKind.u8.wrap (Int.tmod a0.N 256)).toNat))) rfl (rowOf_one (s := .empty) (nIn_ok g2).1 (nIn_ok g2).2) rfl ?_
    refine WL.ownStr (ByteArray.empty.push (UInt8.ofNat (IntKind.u8.wrap (Int.tmod a0.N 256)).toNat)) tt_ok rfl rfl rfl rfl ?_
    refine WL.run 1 tt_ok sg0 rfl rfl trivial ?_
    refine WL.nil ?_
    refine QT.n ?_
    refine WC.ret ?_
    refine QB.r (QT.r ?_)
    cases H
    exact Ends.auto rfl rfl rfl trivial
  replace H := of_f H h1
  refine WC.seq ?_
  refine WC.region ?_
  refine WL.run 2 tt_ok sg0 rfl rfl trivial ?_
  refine WL.nil ?_
  refine QT.n ?_
  refine WC.cond rfl (fun h3 => ?_) (fun h3 => ?_)
  · replace H := of_t H h3
    refine WC.seq ?_
    refine WC.region ?_
    refine WL.run 2 tt_ok sg0 rfl rfl trivial ?_
    obtain ⟨x4, hx4, H⟩ := of_bind H
    refine WL.call [] (ref01_Num_0 _ hx4) ref01_Num_f rfl rfl trivial rfl rfl rfl ?_
    refine WL.run 1 tt_ok sg0 rfl rfl trivial ?_
    refine WL.nil ?_
    refine QT.n ?_
    refine WC.ret ?_
    refine QB.r (QT.r ?_)
    cases H
    exact Ends.auto rfl rfl rfl trivial
  replace H := of_f H h3
  refine WC.seq ?_
  refine WC.region ?_
  refine WL.run 2 tt_ok sg0 rfl rfl trivial ?_
  refine WL.nil ?_
  refine QT.n ?_
  refine WC.cond rfl (fun h5 => ?_) (fun h5 => ?_)
  · replace H := of_t H h5
    refine WC.seq ?_
    refine WC.region ?_
    refine WL.run 2 tt_ok sg0 rfl rfl trivial ?_
    obtain ⟨x6, hx6, H⟩ := of_bind H
    refine WL.call [] (ref01_Int_0 _ hx6) ref01_Int_f rfl rfl trivial rfl rfl rfl ?_
    refine WL.run 1 tt_ok sg0 rfl rfl trivial ?_
    refine WL.nil ?_
    refine QT.n ?_
    refine WC.ret ?_
    refine QB.r (QT.r ?_)
    cases H
    exact Ends.auto rfl rfl rfl trivial
  replace H := of_f H h5
  refine WC.skip ?_
  refine QB.n (QT.n ?_)
  refine WC.seq ?_
  refine WC.region ?_
  refine WL.run 2 tt_ok sg0 rfl rfl trivial ?_
  obtain ⟨x7, hx7, H⟩ := of_bind H
  refine WL.call [] (ref01_Text_0 _ hx7) ref01_Text_f rfl rfl trivial rfl rfl rfl ?_
  refine WL.run 1 tt_ok sg0 rfl rfl trivial ?_
  refine WL.nil ?_
  refine QT.n ?_
  refine WC.ret ?_
  cases H
  exact Ends.auto rfl rfl rfl trivial
theorem ref01_Put_f : hasFunc Try.prog 19 Try.f19 := ⟨Try.func19, rfl, by kernel_rfl⟩

/-! ### logjam/logjamlaw01.OctetWrites -/
theorem law01_OctetWrites_0 (a0 : List T_ref01_Op) {r : Bool} (H : law01_OctetWrites a0 = some r) : LJ.Spec Try.prog 5 [.d (slT enc_ref01_Op a0)] [] (.d (.bool r)) [] := by
  refine LJ.Spec.code Try.func5 rfl 38 rfl rfl [] rfl fun w0 F0 S0 B0 => ?_
  unfold law01_OctetWrites at H
  refine WC.seq ?_
  refine WC.region ?_
  refine WL.run 1 tt_ok sg0 rfl rfl trivial ?_
  refine WL.nil ?_
  refine QT.n ?_
  refine WC.seq ?_
  refine WC.region ?_
  refine WL.run 1 tt_ok sg0 rfl rfl trivial ?_
  refine WL.eff 107 tt_ok et_ok eg0 rfl rfl rfl trivial ?_
  refine WL.run 2 tt_ok sg0 rfl rfl trivial ?_
  refine WL.nil ?_
  refine QT.n ?_
  refine WC.seq ?_
  refine WC.seq ?_
  refine WC.region ?_
  refine WL.run 1 tt_ok sg0 rfl rfl trivial ?_
  refine WL.nil ?_
  refine QT.n ?_
  refine WC.block ?_
  refine WC.nilF 107 0 4070 5 1 rfl ?_
  refine WC.loop (ι := {x : Nat × (ByteArray × Int × ByteArray) // law01_OctetWrites_l3 a0 x.1 x.2 = some r}) (fun x => [(0, .d (slT enc_ref01_Op a0)), (3, .ptr 107 0), (4, .d (.str x.1.2.1)), (5, .d (.int .i64 x.1.2.2.1))]) (fun x => [(107, .box 27 [.own 4070]), (4070, .row 5 1 (rowOf x.1.2.2.2))]) (fun x => x.1.1) ⟨(fuel, (ByteArray.empty, 0, ByteArray.empty)), H⟩ (Less.mk' ⟨rfl, rfl, rfl, rfl, trivial⟩ ⟨rfl, rfl, trivial⟩) fun x => ?_
  obtain ⟨⟨k3, s2⟩, H⟩ := x
  rcases k3 with _ | k3
  · exact of_none H
  rw [law01_OctetWrites_l3] at H
  refine WC.seq ?_
  refine WC.seq ?_
  refine WC.region ?_
  refine WL.run 5 tt_ok sg0 rfl rfl trivial ?_
  refine WL.sect 2 4 true tt_ok sg0 rfl rfl (fun _ => trivial) ?_
  refine WL.run 1 tt_ok sg0 rfl rfl ⟨by first | exact id | exact fun h => by rw [h]; rfl | simp_all, trivial⟩ ?_
  refine WL.nil ?_
  refine QT.n ?_
  refine WC.cond rfl (fun h4 => ?_) (fun h4 => ?_)
  · replace H := of_t H h4
    refine WC.skip ?_
    refine QT.n ?_
    refine WC.seq ?_
    refine WC.block ?_
    refine WC.seq ?_
    refine WC.region ?_
    obtain ⟨g5, H⟩ := of_need H
    refine WL.run 5 tt_ok sg0 rfl rfl ⟨⟨(nIn_ok g5).1, (nIn_ok g5).2, rfl⟩, trivial⟩ ?_
    obtain ⟨x6, hx6, H⟩ := of_bind H
    refine WL.call [4070] (law01_put_s 107 4070 rfl _ _ hx6) law01_put_f rfl rfl ⟨rfl, rfl, trivial⟩ rfl rfl rfl ?_
    refine WL.nil ?_
    refine QT.n ?_
    refine WC.region ?_
    obtain ⟨g7, H⟩ := of_need H
    refine WL.run 5 tt_ok sg0 rfl rfl ⟨⟨(nIn_ok g7).1, (nIn_ok g7).2, rfl⟩, trivial⟩ ?_
    obtain ⟨x8, hx8, H⟩ := of_bind H
    refine WL.call [] (ref01_Put_0 _ hx8) ref01_Put_f rfl rfl trivial rfl rfl rfl ?_
    obtain ⟨g9, H⟩ := of_need H
    refine WL.run 2 tt_ok sg0 rfl rfl ⟨(nStr_ok g9), trivial⟩ ?_
    refine WL.nil ?_
    refine QB.n (QT.n ?_)
    refine WC.region ?_
    refine WL.run 3 tt_ok sg0 rfl rfl trivial ?_
    refine WL.nil ?_
    refine QT.n ?_
    exact ⟨⟨(k3, (s2.1 ++ x8, IntKind.i64.wrap (s2.2.1 + 1), x6.b)), H⟩, Nat.lt_succ_self _, Less.mk' ⟨rfl, rfl, rfl, rfl, trivial⟩ ⟨rfl, rfl, trivial⟩⟩
  replace H := of_f H h4
  refine WC.exit ?_
  refine QT.x (QT.x (QB.hit (QT.n ?_)))
  refine WC.seq ?_
  refine WC.region ?_
  refine WL.run 1 tt_ok sg0 rfl rfl trivial ?_
  obtain ⟨x10, hx10, H⟩ := of_bind H
  refine WL.call [4070] (octet_Out_Done_s 107 4070 rfl _ hx10) octet_Out_Done_f rfl rfl ⟨rfl, rfl, trivial⟩ rfl rfl rfl ?_
  refine WL.run 3 tt_ok sg0 rfl rfl trivial ?_
  obtain ⟨x11, hx11, H⟩ := of_bind H
  refine WL.sect 1 4 true tt_ok [PSig.at' law01_lives_f ((sEq x10 s2.1) = true) rfl (fun hb => law01_lives_0  (of_t hx11 hb))] rfl rfl (fun hb => ⟨⟨hb, rfl⟩, trivial⟩) ?_
  refine WL.run 2 tt_ok sg0 rfl rfl ⟨by first | exact id | exact fun h => by rw [h]; rfl | simp_all, trivial⟩ ?_
  refine WL.nil ?_
  refine QT.n ?_
  refine WC.ret ?_
  cases H
  exact Ends.auto rfl rfl rfl trivial
theorem law01_OctetWrites_f : hasFunc Try.prog 5 Try.f5 := ⟨Try.func5, rfl, by kernel_rfl⟩

/-! ### logjam/logjamref01.Fail -/
theorem ref01_Fail_0 (a0 : T_ref01_R) (a1 : Int) {r : T_ref01_R} (H : ref01_Fail a0 a1 = some r) : LJ.Spec Try.prog 32 [.d (.agg [.str a0.S, .int .i64 a0.At, .int .i64 a0.Err]), .d (.int .i64 a1)] [] (.d (.agg [.str r.S, .int .i64 r.At, .int .i64 r.Err])) [] := by
  refine LJ.Spec.code Try.func32 rfl 15 rfl rfl [] rfl fun w0 F0 S0 B0 => ?_
  unfold ref01_Fail at H
  refine WC.seq ?_
  refine WC.region ?_
  refine WL.eff 102 tt_ok et_ok eg0 rfl rfl rfl trivial ?_
  refine WL.alloc 104 tt_ok rfl rfl rfl ?_
  refine WL.nil ?_
  refine QT.n ?_
  refine WC.seq ?_
  refine WC.seq ?_
  refine WC.region ?_
  refine WL.run 3 tt_ok sg0 rfl rfl trivial ?_
  refine WL.nil ?_
  refine QT.n ?_
  refine WC.cond rfl (fun h1 => ?_) (fun h1 => ?_)
  · replace H := of_t H h1
    refine WC.region ?_
    refine WL.run 5 tt_ok sg0 rfl rfl trivial ?_
    refine WL.eff 0 tt_ok et_ok eg0 rfl rfl rfl trivial ?_
    refine WL.run 1 tt_ok sg0 rfl rfl trivial ?_
    refine WL.eff 0 tt_ok et_ok eg0 rfl rfl rfl trivial ?_
    refine WL.nil ?_
    refine QT.n ?_
    refine WC.seq ?_
    refine WC.region ?_
    refine WL.run 1 tt_ok sg0 rfl rfl trivial ?_
    refine WL.eff 0 tt_ok et_ok eg0 rfl rfl rfl trivial ?_
    refine WL.nil ?_
    refine QT.n ?_
    refine WC.ret ?_
    cases H
    exact Ends.autoC tt_ok rfl rfl rfl trivial
  replace H := of_f H h1
  refine WC.skip ?_
  refine QT.n ?_
  refine WC.seq ?_
  refine WC.region ?_
  refine WL.run 1 tt_ok sg0 rfl rfl trivial ?_
  refine WL.eff 0 tt_ok et_ok eg0 rfl rfl rfl trivial ?_
  refine WL.nil ?_
  refine QT.n ?_
  refine WC.ret ?_
  cases H
  exact Ends.autoC tt_ok rfl rfl rfl trivial
theorem ref01_Fail_f : hasFunc Try.prog 32 Try.f32 := ⟨Try.func32, rfl, by kernel_rfl⟩

/-! ### logjam/logjamref01.Byte -/
theorem ref01_Byte_0 (a0 : T_ref01_R) {r : Int × T_ref01_R} (H : ref01_Byte a0 = some r) : LJ.Spec Try.prog 20 [.d (.agg [.str a0.S, .int .i64 a0.At, .int .i64 a0.Err])] [] (.tup [.d (.int .i64 r.1), .d (.agg [.str r.2.S, .int .i64 r.2.At, .int .i64 r.2.Err])]) [] := by
  refine LJ.Spec.code Try.func20 rfl 25 rfl rfl [] rfl fun w0 F0 S0 B0 => ?_
  unfold ref01_Byte at H
  refine WC.seq ?_
  refine WC.region ?_
  refine WL.eff 101 tt_ok et_ok eg0 rfl rfl rfl trivial ?_
  refine WL.run 1 tt_ok sg0 rfl rfl trivial ?_
  refine WL.alloc 103 tt_ok rfl rfl rfl ?_
  refine WL.nil ?_
  refine QT.n ?_
  refine WC.seq ?_
  refine WC.seq ?_
  refine WC.region ?_
  refine WL.run 6 tt_ok sg0 rfl rfl trivial ?_
  refine WL.nil ?_
  refine QT.n ?_
  refine WC.cond rfl (fun h1 => ?_) (fun h1 => ?_)
  · replace H := of_t H h1
    refine WC.seq ?_
    refine WC.region ?_
    refine WL.run 1 tt_ok sg0 rfl rfl trivial ?_
    obtain ⟨x2, hx2, H⟩ := of_bind H
    refine WL.call [] (ref01_Fail_0 _ _ hx2) ref01_Fail_f rfl rfl trivial rfl rfl rfl ?_
    refine WL.run 1 tt_ok sg0 rfl rfl trivial ?_
    refine WL.eff 0 tt_ok et_ok eg0 rfl rfl rfl trivial ?_
    refine WL.nil ?_
    refine QT.n ?_
    refine WC.ret ?_
    refine QT.r ?_
    cases H
    exact Ends.autoC tt_ok rfl rfl rfl trivial
  replace H := of_f H h1
  refine WC.skip ?_
  refine QT.n ?_
  refine WC.seq ?_
  refine WC.region ?_
  obtain ⟨g3, H⟩ := of_need H
  refine WL.run 7 tt_ok sg0 rfl rfl ⟨(nIn_ok g3), trivial⟩ ?_
  refine WL.nil ?_
  refine QT.n ?_
  refine WC.seq ?_
  refine WC.region ?_
  refine WL.run 4 tt_ok sg0 rfl rfl trivial ?_
  refine WL.eff 0 tt_ok et_ok eg0 rfl rfl rfl trivial ?_
  refine WL.nil ?_
  refine QT.n ?_
  refine WC.seq ?_
  refine WC.heldP (.one 0 true (.one 1 true (.one 2 true (.one 3 false .done)))) [101, 103] [101] rfl (by kernel_rfl) rfl (by kernel_rfl) rfl rfl (fun _ h => h) rfl rfl rfl (fun _ _ _ h => h) fun FK NK wK K => ?_
  refine WH.run 3 tt_ok rfl rfl rfl rfl trivial ?_
  refine WH.eff 0 tt_ok et_ok rfl rfl rfl rfl trivial rfl rfl ?_
  refine WH.nil rfl ?_
  refine QT.n ?_
  refine WC.ret ?_
  cases H
  exact Ends.autoC tt_ok rfl rfl rfl trivial
theorem ref01_Byte_f : hasFunc Try.prog 20 Try.f20 := ⟨Try.func20, rfl, by kernel_rfl⟩

/-! ### logjam/logjamref01.Number -/
theorem ref01_Number_0 (a0 : T_ref01_R) {r : Int × T_ref01_R} (H : ref01_Number a0 = some r) : LJ.Spec Try.prog 22 [.d (.agg [.str a0.S, .int .i64 a0.At, .int .i64 a0.Err])] [] (.tup [.d (.int .u64 r.1), .d (.agg [.str r.2.S, .int .i64 r.2.At, .int .i64 r.2.Err])]) [] := by
  refine LJ.Spec.code Try.func22 rfl 52 rfl rfl [] rfl fun w0 F0 S0 B0 => ?_
  unfold ref01_Number at H
  refine WC.seq ?_
  refine WC.region ?_
  refine WL.eff 101 tt_ok et_ok eg0 rfl rfl rfl trivial ?_
  refine WL.run 1 tt_ok sg0 rfl rfl trivial ?_
  refine WL.alloc 103 tt_ok rfl rfl rfl ?_
  refine WL.nil ?_
  refine QT.n ?_
  refine WC.seq ?_
  refine WC.region ?_
  refine WL.run 3 tt_ok sg0 rfl rfl trivial ?_
  refine WL.nil ?_
  refine QT.n ?_
  refine WC.seq ?_
  refine WC.seq ?_
  refine WC.region ?_
  refine WL.run 1 tt_ok sg0 rfl rfl trivial ?_
  refine WL.nil ?_
  refine QT.n ?_
  refine WC.block ?_
  refine WC.loop (ι := {x : Nat × (Int × Int × Int × ByteArray × Int × Int) // ref01_Number_l2 x.1 x.2 = some r}) (fun x => [(1, .ptr 101 0), (3, .ptr 103 0), (4, .d (.int .u64 x.1.2.1)), (5, .d (.int .u64 x.1.2.2.1)), (7, .d (.int .i64 x.1.2.2.2.1))]) (fun x => [(101, .box 47 [.d (.str x.1.2.2.2.2.1), .d (.int .i64 x.1.2.2.2.2.2.1), .d (.int .i64 x.1.2.2.2.2.2.2)]), (103, .box 47 [.d (.str ByteArray.empty), .d (.int .i64 0), .d (.int .i64 0)])]) (fun x => x.1.1) ⟨(fuel, (0, 1, 0, a0.S, a0.At, a0.Err)), H⟩ (Less.mk' ⟨rfl, rfl, rfl, rfl, rfl, trivial⟩ ⟨rfl, rfl, trivial⟩) fun x => ?_
  obtain ⟨⟨k2, s1⟩, H⟩ := x
  rcases k2 with _ | k2
  · exact of_none H
  rw [ref01_Number_l2] at H
  refine WC.seq ?_
  refine WC.seq ?_
  refine WC.region ?_
  refine WL.run 2 tt_ok sg0 rfl rfl trivial ?_
  refine WL.nil ?_
  refine QT.n ?_
  refine WC.cond rfl (fun h3 => ?_) (fun h3 => ?_)
  · replace H := of_t H h3
    refine WC.skip ?_
    refine QT.n ?_
    refine WC.seq ?_
    refine WC.block ?_
    refine WC.seq ?_
    refine WC.region ?_
    refine WL.run 1 tt_ok sg0 rfl rfl trivial ?_
    obtain ⟨x4, hx4, H⟩ := of_bind H
    refine WL.call [] (ref01_Byte_0 _ hx4) ref01_Byte_f rfl rfl trivial rfl rfl rfl ?_
    refine WL.run 4 tt_ok sg0 rfl rfl trivial ?_
    refine WL.eff 0 tt_ok et_ok eg0 rfl rfl rfl trivial ?_
    refine WL.nil ?_
    refine QT.n ?_
    refine WC.seq ?_
    refine WC.seq ?_
    refine WC.region ?_
    refine WL.run 3 tt_ok sg0 rfl rfl trivial ?_
    refine WL.nil ?_
    refine QT.n ?_
    refine WC.cond rfl (fun h5 => ?_) (fun h5 => ?_)
    · replace H := of_t H h5
      refine WC.seq ?_
      refine WC.heldP (.one 0 true (.one 1 true (.one 2 false .done))) [101, 103] [101] rfl (by kernel_rfl) rfl (by kernel_rfl) rfl rfl (fun _ h => h) rfl rfl rfl (fun _ _ _ h => h) fun FK NK wK K => ?_
      refine WH.run 2 tt_ok rfl rfl rfl rfl trivial ?_
      refine WH.eff 0 tt_ok et_ok rfl rfl rfl rfl trivial rfl rfl ?_
      refine WH.nil rfl ?_
      refine QT.n ?_
      refine WC.ret ?_
      refine QT.r (QB.r (QT.r (QT.r (QB.r (QT.r ?_)))))
      cases H
      exact Ends.autoC tt_ok rfl rfl rfl trivial
    replace H := of_f H h5
    refine WC.skip ?_
    refine QT.n ?_
    refine WC.seq ?_
    refine WC.seq ?_
    refine WC.region ?_
    refine WL.run 3 tt_ok sg0 rfl rfl trivial ?_
    refine WL.sect 2 2 true tt_ok sg0 rfl rfl (fun _ => trivial) ?_
    refine WL.run 2 tt_ok sg0 rfl rfl ⟨by first | exact id | exact fun h => by rw [h]; rfl | simp_all, trivial⟩ ?_
    refine WL.sect 3 6 false tt_ok sg0 rfl rfl (fun _ => trivial) ?_
    refine WL.sect 2 9 true tt_ok sg0 rfl rfl (fun _ => trivial) ?_
    refine WL.sect 1 6 false tt_ok sg0 rfl rfl (fun hb => ⟨by first | exact id | exact ⟨hb, fun h => by rw [hb, h]; rfl⟩ | exact ⟨hb, id⟩ | exact fun h => by rw [hb, h]; rfl | exact fun h => by rw [h]; rfl | simp_all, trivial⟩) ?_
    refine WL.run 1 tt_ok sg0 rfl rfl ⟨by first | exact id | exact fun h => by rw [h]; rfl | simp_all, trivial⟩ ?_
    refine WL.nil ?_
    refine QT.n ?_
    refine WC.cond rfl (fun h6 => ?_) (fun h6 => ?_)
    · replace H := of_t H h6
      refine WC.seq ?_
      refine WC.region ?_
      refine WL.run 1 tt_ok sg0 rfl rfl trivial ?_
      obtain ⟨x7, hx7, H⟩ := of_bind H
      refine WL.call [] (ref01_Fail_0 _ _ hx7) ref01_Fail_f rfl rfl trivial rfl rfl rfl ?_
      refine WL.run 1 tt_ok sg0 rfl rfl trivial ?_
      refine WL.eff 0 tt_ok et_ok eg0 rfl rfl rfl trivial ?_
      refine WL.nil ?_
      refine QT.n ?_
      refine WC.ret ?_
      refine QT.r (QB.r (QT.r (QT.r (QB.r (QT.r ?_)))))
      cases H
      exact Ends.autoC tt_ok rfl rfl rfl trivial
    replace H := of_f H h6
    refine WC.skip ?_
    refine QT.n ?_
    refine WC.seq ?_
    refine WC.region ?_
    refine WL.run 8 tt_ok sg0 rfl rfl trivial ?_
    refine WL.nil ?_
    refine QT.n ?_
    refine WC.seq ?_
    refine WC.seq ?_
    refine WC.region ?_
    refine WL.run 2 tt_ok sg0 rfl rfl trivial ?_
    refine WL.nil ?_
    refine QT.n ?_
    refine WC.cond rfl (fun h8 => ?_) (fun h8 => ?_)
    · replace H := of_t H h8
      refine WC.seq ?_
      refine WC.heldP (.one 0 true (.one 1 true (.one 2 true (.one 3 false .done)))) [101, 103] [101] rfl (by kernel_rfl) rfl (by kernel_rfl) rfl rfl (fun _ h => h) rfl rfl rfl (fun _ _ _ h => h) fun FK NK wK K => ?_
      refine WH.run 3 tt_ok rfl rfl rfl rfl trivial ?_
      refine WH.eff 0 tt_ok et_ok rfl rfl rfl rfl trivial rfl rfl ?_
      refine WH.nil rfl ?_
      refine QT.n ?_
      refine WC.ret ?_
      refine QT.r (QB.r (QT.r (QT.r (QB.r (QT.r ?_)))))
      cases H
      exact Ends.autoC tt_ok rfl rfl rfl trivial
    replace H := of_f H h8
    refine WC.skip ?_
    refine QT.n ?_
    refine WC.region ?_
    refine WL.run 3 tt_ok sg0 rfl rfl trivial ?_
    refine WL.nil ?_
    refine QB.n (QT.n ?_)
    refine WC.region ?_
    refine WL.run 3 tt_ok sg0 rfl rfl trivial ?_
    refine WL.nil ?_
    refine QT.n ?_
    exact ⟨⟨(k2, (IntKind.u64.wrap (s1.1 + (IntKind.u64.wrap ((IntKind.u64.wrap (Int.tmod x4.1 128)) * s1.2.1))), IntKind.u64.wrap (s1.2.1 * 128), IntKind.i64.wrap (s1.2.2.1 + 1), x4.2.S, x4.2.At, x4.2.Err)), H⟩, Nat.lt_succ_self _, Less.mk' ⟨rfl, rfl, rfl, rfl, rfl, trivial⟩ ⟨rfl, rfl, trivial⟩⟩
  replace H := of_f H h3
  refine WC.exit ?_
  refine QT.x (QT.x (QB.hit (QT.n ?_)))
  refine WC.seq ?_
  refine WC.heldP (.one 0 true (.one 1 true (.one 2 true (.one 3 false .done)))) [101, 103] [101] rfl (by kernel_rfl) rfl (by kernel_rfl) rfl rfl (fun _ h => h) rfl rfl rfl (fun _ _ _ h => h) fun FK NK wK K => ?_
  refine WH.run 3 tt_ok rfl rfl rfl rfl trivial ?_
  refine WH.eff 0 tt_ok et_ok rfl rfl rfl rfl trivial rfl rfl ?_
  refine WH.nil rfl ?_
  refine QT.n ?_
  refine WC.ret ?_
  cases H
  exact Ends.autoC tt_ok rfl rfl rfl trivial
theorem ref01_Number_f : hasFunc Try.prog 22 Try.f22 := ⟨Try.func22, rfl, by kernel_rfl⟩

/-! ### logjam/logjamref01.Signed -/
theorem ref01_Signed_0 (a0 : T_ref01_R) {r : Int × T_ref01_R} (H : ref01_Signed a0 = some r) : LJ.Spec Try.prog 23 [.d (.agg [.str a0.S, .int .i64 a0.At, .int .i64 a0.Err])] [] (.tup [.d (.int .i64 r.1), .d (.agg [.str r.2.S, .int .i64 r.2.At, .int .i64 r.2.Err])]) [] := by
  refine LJ.Spec.code Try.func23 rfl 24 rfl rfl [] rfl fun w0 F0 S0 B0 => ?_
  unfold ref01_Signed at H
  refine WC.seq ?_
  refine WC.region ?_
  refine WL.eff 101 tt_ok et_ok eg0 rfl rfl rfl trivial ?_
  refine WL.run 1 tt_ok sg0 rfl rfl trivial ?_
  refine WL.alloc 103 tt_ok rfl rfl rfl ?_
  refine WL.nil ?_
  refine QT.n ?_
  refine WC.seq ?_
  refine WC.region ?_
  refine WL.run 1 tt_ok sg0 rfl rfl trivial ?_
  obtain ⟨x1, hx1, H⟩ := of_bind H
  refine WL.call [] (ref01_Number_0 _ hx1) ref01_Number_f rfl rfl trivial rfl rfl rfl ?_
  refine WL.run 3 tt_ok sg0 rfl rfl trivial ?_
  refine WL.alloc 105 tt_ok rfl rfl rfl ?_
  refine WL.run 1 tt_ok sg0 rfl rfl trivial ?_
  refine WL.eff 0 tt_ok et_ok eg0 rfl rfl rfl trivial ?_
  refine WL.nil ?_
  refine QT.n ?_
  refine WC.seq ?_
  refine WC.seq ?_
  refine WC.region ?_
  refine WL.run 3 tt_ok sg0 rfl rfl trivial ?_
  refine WL.nil ?_
  refine QT.n ?_
  refine WC.cond rfl (fun h2 => ?_) (fun h2 => ?_)
  · replace H := of_t H h2
    refine WC.seq ?_
    refine WC.heldP (.one 0 true (.one 1 true (.one 2 true (.one 3 true (.one 4 true (.one 5 false .done)))))) [101, 103, 105] [101, 105] rfl (by kernel_rfl) rfl (by kernel_rfl) rfl rfl (fun _ h => h) rfl rfl rfl (fun _ _ _ h => h) fun FK NK wK K => ?_
    refine WH.run 5 tt_ok rfl rfl rfl rfl trivial ?_
    refine WH.eff 0 tt_ok et_ok rfl rfl rfl rfl trivial rfl rfl ?_
    refine WH.nil rfl ?_
    refine QT.n ?_
    refine WC.ret ?_
    refine QT.r ?_
    cases H
    exact Ends.autoC tt_ok rfl rfl rfl trivial
  replace H := of_f H h2
  refine WC.skip ?_
  refine QT.n ?_
  refine WC.seq ?_
  refine WC.heldP (.one 0 true (.one 1 true (.one 2 true (.one 3 true (.one 4 true (.one 5 true (.one 6 true (.one 7 false .done)))))))) [101, 103, 105] [101, 105] rfl (by kernel_rfl) rfl (by kernel_rfl) rfl rfl (fun _ h => h) rfl rfl rfl (fun _ _ _ h => h) fun FK NK wK K => ?_
  refine WH.run 7 tt_ok rfl rfl rfl rfl trivial ?_
  refine WH.eff 0 tt_ok et_ok rfl rfl rfl rfl trivial rfl rfl ?_
  refine WH.nil rfl ?_
  refine QT.n ?_
  refine WC.ret ?_
  cases H
  exact Ends.autoC tt_ok rfl rfl rfl trivial
theorem ref01_Signed_f : hasFunc Try.prog 23 Try.f23 := ⟨Try.func23, rfl, by kernel_rfl⟩

/-! ### logjam/logjamref01.Words -/
theorem ref01_Words_0 (a0 : T_ref01_R) {r : ByteArray × T_ref01_R} (H : ref01_Words a0 = some r) : LJ.Spec Try.prog 24 [.d (.agg [.str a0.S, .int .i64 a0.At, .int .i64 a0.Err])] [] (.tup [.d (.str r.1), .d (.agg [.str r.2.S, .int .i64 r.2.At, .int .i64 r.2.Err])]) [] := by
  refine LJ.Spec.code Try.func24 rfl 41 rfl rfl [] rfl fun w0 F0 S0 B0 => ?_
  unfold ref01_Words at H
  refine WC.seq ?_
  refine WC.region ?_
  refine WL.eff 101 tt_ok et_ok eg0 rfl rfl rfl trivial ?_
  refine WL.run 1 tt_ok sg0 rfl rfl trivial ?_
  refine WL.alloc 103 tt_ok rfl rfl rfl ?_
  refine WL.nil ?_
  refine QT.n ?_
  refine WC.seq ?_
  refine WC.region ?_
  refine WL.run 1 tt_ok sg0 rfl rfl trivial ?_
  obtain ⟨x1, hx1, H⟩ := of_bind H
  refine WL.call [] (ref01_Number_0 _ hx1) ref01_Number_f rfl rfl trivial rfl rfl rfl ?_
  refine WL.run 3 tt_ok sg0 rfl rfl trivial ?_
  refine WL.alloc 105 tt_ok rfl rfl rfl ?_
  refine WL.run 1 tt_ok sg0 rfl rfl trivial ?_
  refine WL.eff 0 tt_ok et_ok eg0 rfl rfl rfl trivial ?_
  refine WL.nil ?_
  refine QT.n ?_
  refine WC.seq ?_
  refine WC.seq ?_
  refine WC.region ?_
  refine WL.run 9 tt_ok sg0 rfl rfl trivial ?_
  refine WL.nil ?_
  refine QT.n ?_
  refine WC.cond rfl (fun h2 => ?_) (fun h2 => ?_)
  · replace H := of_t H h2
    refine WC.seq ?_
    refine WC.region ?_
    refine WL.run 1 tt_ok sg0 rfl rfl trivial ?_
    obtain ⟨x3, hx3, H⟩ := of_bind H
    refine WL.call [] (ref01_Fail_0 _ _ hx3) ref01_Fail_f rfl rfl trivial rfl rfl rfl ?_
    refine WL.run 1 tt_ok sg0 rfl rfl trivial ?_
    refine WL.eff 0 tt_ok et_ok eg0 rfl rfl rfl trivial ?_
    refine WL.nil ?_
    refine QT.n ?_
    refine WC.ret ?_
    refine QT.r ?_
    cases H
    exact Ends.autoC tt_ok rfl rfl rfl trivial
  replace H := of_f H h2
  refine WC.skip ?_
  refine QT.n ?_
  refine WC.seq ?_
  refine WC.region ?_
  obtain ⟨g4, H⟩ := of_need H
  refine WL.run 11 tt_ok sg0 rfl rfl ⟨(nSl_ok g4), trivial⟩ ?_
  refine WL.nil ?_
  refine QT.n ?_
  refine WC.seq ?_
  refine WC.region ?_
  refine WL.run 6 tt_ok sg0 rfl rfl trivial ?_
  refine WL.eff 0 tt_ok et_ok eg0 rfl rfl rfl trivial ?_
  refine WL.nil ?_
  refine QT.n ?_
  refine WC.seq ?_
  refine WC.heldP (.one 0 true (.one 1 true (.one 2 true (.one 3 false .done)))) [101, 103, 105] [101, 105] rfl (by kernel_rfl) rfl (by kernel_rfl) rfl rfl (fun _ h => h) rfl rfl rfl (fun _ _ _ h => h) fun FK NK wK K => ?_
  refine WH.run 3 tt_ok rfl rfl rfl rfl trivial ?_
  refine WH.eff 0 tt_ok et_ok rfl rfl rfl rfl trivial rfl rfl ?_
  refine WH.nil rfl ?_
  refine QT.n ?_
  refine WC.ret ?_
  cases H
  exact Ends.autoC tt_ok rfl rfl rfl trivial
theorem ref01_Words_f : hasFunc Try.prog 24 Try.f24 := ⟨Try.func24, rfl, by kernel_rfl⟩

/-! ### (*logjam/octet.In).Text -/
theorem octet_In_Text_0 (a0 : T_octet_In) {r : ByteArray × T_octet_In} (H : octet_In_Text a0 = some r) : LJ.Spec Try.prog 25 [.ptr 0 0] [(0, .box 59 [.d (.str a0.s), .d (.int .i64 a0.at_), .d (.int .i64 a0.err)])] (.d (.str r.1)) [(0, .box 59 [.d (.str r.2.s), .d (.int .i64 r.2.at_), .d (.int .i64 r.2.err)])] := by
  refine LJ.Spec.code Try.func25 rfl 48 rfl rfl [0] rfl fun w0 F0 S0 B0 => ?_
  unfold octet_In_Text at H
  refine WC.seq ?_
  refine WC.region ?_
  refine WL.run 1 tt_ok sg0 rfl rfl trivial ?_
  refine WL.nil ?_
  refine QT.n ?_
  refine WC.seq ?_
  refine WC.region ?_
  refine WL.run 1 tt_ok sg0 rfl rfl trivial ?_
  obtain ⟨x1, hx1, H⟩ := of_bind H
  refine WL.call [] (octet_In_Num_s 0 rfl _ hx1) octet_In_Num_f rfl rfl ⟨rfl, trivial⟩ rfl rfl rfl ?_
  refine WL.run 1 tt_ok sg0 rfl rfl trivial ?_
  refine WL.nil ?_
  refine QT.n ?_
  refine WC.seq ?_
  refine WC.seq ?_
  refine WC.region ?_
  refine WL.run 2 tt_ok sg0 rfl rfl trivial ?_
  refine WL.nil ?_
  refine QT.n ?_
  refine WC.cond rfl (fun h => absurd h (by decide)) (fun h => ?_)
  refine WC.skip ?_
  refine QT.n ?_
  refine WC.seq ?_
  refine WC.seq ?_
  refine WC.heldP (.one 0 true (.one 1 true (.one 2 true (.one 3 true (.one 4 true (.one 5 true (.one 6 true (.one 7 true (.one 8 true (.one 9 true (.one 10 true (.one 11 true (.one 12 true .done))))))))))))) [0] [0] rfl (by kernel_rfl) rfl (by kernel_rfl) rfl rfl (fun _ h => h) rfl rfl rfl (fun _ _ _ h => h) fun FK NK wK K => ?_
  refine WH.run 13 tt_ok rfl rfl rfl rfl trivial ?_
  refine WH.nil rfl ?_
  refine QT.n ?_
  refine WC.cond rfl (fun h2 => ?_) (fun h2 => ?_)
  · replace H := of_t H h2
    refine WC.seq ?_
    refine WC.region ?_
    refine WL.run 1 tt_ok sg0 rfl rfl trivial ?_
    obtain ⟨x3, hx3, H⟩ := of_bind H
    refine WL.call [] (octet_In_fail_s 0 rfl _ _ hx3) octet_In_fail_f rfl rfl ⟨rfl, trivial⟩ rfl rfl rfl ?_
    refine WL.nil ?_
    refine QT.n ?_
    refine WC.seq ?_
    refine WC.region ?_
    refine WL.run 1 tt_ok sg0 rfl rfl trivial ?_
    refine WL.nil ?_
    refine QT.n ?_
    refine WC.ret ?_
    refine QT.r ?_
    cases H
    exact Ends.auto rfl rfl rfl ⟨rfl, trivial⟩
  replace H := of_f H h2
  refine WC.skip ?_
  refine QT.n ?_
  refine WC.seq ?_
  refine WC.region ?_
  refine WL.run 9 tt_ok sg0 rfl rfl trivial ?_
  refine WL.eff 0 tt_ok et_ok eg0 rfl rfl rfl trivial ?_
  refine WL.nil ?_
  refine QT.n ?_
  refine WC.seq ?_
  refine WC.heldP (.one 0 true (.one 1 true (.one 2 true (.one 3 true (.one 4 true (.one 5 true (.one 6 true (.one 7 true (.one 8 true (.one 9 true (.one 10 true (.one 11 true (.one 12 true (.one 13 true (.one 14 true (.one 15 true (.one 16 true .done))))))))))))))))) [0] [0] rfl (by kernel_rfl) rfl (by kernel_rfl) rfl rfl (fun _ h => h) rfl rfl rfl (fun _ _ _ h => h) fun FK NK wK K => ?_
  obtain ⟨g4, H⟩ := of_need H
  refine WH.run 17 tt_ok rfl rfl rfl rfl ⟨(nSl_ok g4), trivial⟩ ?_
  refine WH.nil rfl ?_
  refine QT.n ?_
  refine WC.ret ?_
  cases H
  exact Ends.auto rfl rfl rfl ⟨rfl, trivial⟩
theorem octet_In_Text_s (n0 : Nat) (hn : nodupB [n0] = true) (a0 : T_octet_In) {r : ByteArray × T_octet_In} (H : octet_In_Text a0 = some r) : LJ.Spec Try.prog 25 [.ptr n0 0] [(n0, .box 59 [.d (.str a0.s), .d (.int .i64 a0.at_), .d (.int .i64 a0.err)])] (.d (.str r.1)) [(n0, .box 59 [.d (.str r.2.s), .d (.int .i64 r.2.at_), .d (.int .i64 r.2.err)])] :=
  Spec.names [n0] hn rfl rfl (octet_In_Text_0 a0 H)
theorem octet_In_Text_f : hasFunc Try.prog 25 Try.f25 := ⟨Try.func25, rfl, by kernel_rfl⟩

/-! ### logjam/logjamlaw01.OctetReads -/
theorem law01_OctetReads_0 (a0 : ByteArray) (a1 : List Int) {r : Bool} (H : law01_OctetReads a0 a1 = some r) : LJ.Spec Try.prog 6 [.d (.str a0), .d (slT enc_i64 a1)] [] (.d (.bool r)) [] := by
  refine LJ.Spec.code Try.func6 rfl 103 rfl rfl [] rfl fun w0 F0 S0 B0 => ?_
  unfold law01_OctetReads at H
  refine WC.seq ?_
  refine WC.region ?_
  refine WL.run 1 tt_ok sg0 rfl rfl trivial ?_
  refine WL.nil ?_
  refine QT.n ?_
  refine WC.seq ?_
  refine WC.region ?_
  refine WL.run 1 tt_ok sg0 rfl rfl trivial ?_
  obtain ⟨x1, hx1, H⟩ := of_bind H
  refine WL.call [2180] (octet_Open_s 2180 rfl _ hx1) octet_Open_f rfl rfl trivial rfl rfl rfl ?_
  refine WL.run 2 tt_ok sg0 rfl rfl trivial ?_
  refine WL.alloc 106 tt_ok rfl rfl rfl ?_
  refine WL.run 1 tt_ok sg0 rfl rfl trivial ?_
  refine WL.eff 0 tt_ok et_ok eg0 rfl rfl rfl trivial ?_
  refine WL.nil ?_
  refine QT.n ?_
  refine WC.seq ?_
  refine WC.seq ?_
  refine WC.region ?_
  refine WL.run 2 tt_ok sg0 rfl rfl trivial ?_
  refine WL.nil ?_
  refine QT.n ?_
  refine WC.cond rfl (fun h => absurd h (by decide)) (fun h => ?_)
  refine WC.skip ?_
  refine QT.n ?_
  refine WC.seq ?_
  refine WC.seq ?_
  refine WC.region ?_
  refine WL.run 1 tt_ok sg0 rfl rfl trivial ?_
  refine WL.nil ?_
  refine QT.n ?_
  refine WC.block ?_
  refine WC.loop (ι := {x : Nat × (Int × ByteArray × Int × Int × ByteArray × Int × Int) // law01_OctetReads_l3 a0 a1 x.1 x.2 = some r}) (fun x => [(0, .d (.str a0)), (1, .d (slT enc_i64 a1)), (5, .ptr 2180 0), (6, .ptr 106 0), (7, .d (.int .i64 x.1.2.1))]) (fun x => [(106, .box 47 [.d (.str x.1.2.2.1), .d (.int .i64 x.1.2.2.2.1), .d (.int .i64 x.1.2.2.2.2.1)]), (2180, .box 59 [.d (.str x.1.2.2.2.2.2.1), .d (.int .i64 x.1.2.2.2.2.2.2.1), .d (.int .i64 x.1.2.2.2.2.2.2.2)])]) (fun x => x.1.1) ⟨(fuel, (0, a0, 0, 0, x1.s, x1.at_, x1.err)), H⟩ (Less.mk' ⟨rfl, rfl, rfl, rfl, rfl, trivial⟩ ⟨rfl, rfl, trivial⟩) fun x => ?_
  obtain ⟨⟨k3, s2⟩, H⟩ := x
  rcases k3 with _ | k3
  · exact of_none H
  rw [law01_OctetReads_l3] at H
  refine WC.seq ?_
  refine WC.seq ?_
  refine WC.region ?_
  refine WL.run 5 tt_ok sg0 rfl rfl trivial ?_
  refine WL.sect 2 4 true tt_ok sg0 rfl rfl (fun _ => trivial) ?_
  refine WL.run 1 tt_ok sg0 rfl rfl ⟨by first | exact id | exact fun h => by rw [h]; rfl | simp_all, trivial⟩ ?_
  refine WL.nil ?_
  refine QT.n ?_
  refine WC.cond rfl (fun h4 => ?_) (fun h4 => ?_)
  · replace H := of_t H h4
    refine WC.skip ?_
    refine QT.n ?_
    refine WC.seq ?_
    refine WC.block ?_
    refine WC.seq ?_
    refine WC.region ?_
    refine WL.run 1 tt_ok sg0 rfl rfl trivial ?_
    refine WL.nil ?_
    refine QT.n ?_
    refine WC.seq ?_
    refine WC.seq ?_
    refine WC.region ?_
    obtain ⟨g5, H⟩ := of_need H
    refine WL.run 4 tt_ok sg0 rfl rfl ⟨⟨(nIn_ok g5).1, (nIn_ok g5).2, rfl⟩, trivial⟩ ?_
    refine WL.nil ?_
    refine QT.n ?_
    refine WC.block ?_
    refine WC.seq ?_
    refine WC.region ?_
    refine WL.run 2 tt_ok sg0 rfl rfl trivial ?_
    refine WL.nil ?_
    refine QT.n ?_
    refine WC.cond rfl (fun h6 => ?_) (fun h6 => ?_)
    · replace H := of_t H h6
      refine WC.seq ?_
      refine WC.region ?_
      refine WL.run 1 tt_ok sg0 rfl rfl trivial ?_
      obtain ⟨x7, hx7, H⟩ := of_bind H
      refine WL.call [] (ref01_Byte_0 _ hx7) ref01_Byte_f rfl rfl trivial rfl rfl rfl ?_
      refine WL.run 3 tt_ok sg0 rfl rfl trivial ?_
      refine WL.alloc 110 tt_ok rfl rfl rfl ?_
      refine WL.run 1 tt_ok sg0 rfl rfl trivial ?_
      refine WL.eff 0 tt_ok et_ok eg0 rfl rfl rfl trivial ?_
      refine WL.nil ?_
      refine QT.n ?_
      refine WC.heldP (.one 0 true (.one 1 true (.one 3 true (.one 2 false (.one 4 true (.one 5 false (.one 6 true .done))))))) [106, 110, 2180] [110] rfl (by kernel_rfl) rfl (by kernel_rfl) rfl rfl (fun _ h => h) rfl rfl rfl (fun _ _ _ h => h) fun FK NK wK K => ?_
      refine WH.run 3 tt_ok rfl rfl rfl rfl trivial ?_
      obtain ⟨x8, hx8, H⟩ := of_bind H
      refine WH.call [] rfl (octet_In_Byte_s 2180 rfl _ hx8) octet_In_Byte_f rfl rfl ⟨rfl, trivial⟩ rfl rfl rfl rfl rfl ?_
      refine WH.run 1 tt_ok rfl rfl rfl rfl trivial ?_
      refine WH.eff 0 tt_ok et_ok rfl rfl rfl rfl trivial rfl rfl ?_
      refine WH.run 1 tt_ok rfl rfl rfl rfl trivial ?_
      refine WH.nil rfl ?_
      refine QB.n (QT.n ?_)
      refine WC.seq ?_
      refine WC.heldP (.one 0 true (.one 1 true (.one 2 true (.one 3 true (.one 5 true (.one 6 true (.one 7 true (.one 8 true (.one 9 true (.one 4 false (.one 10 true (.one 11 true (.one 12 true (.one 13 true (.one 15 true (.one 16 true (.one 14 false (.one 17 true (.one 18 true .done))))))))))))))))))) [106, 110, 2180] [106, 110] rfl (by kernel_rfl) rfl (by kernel_rfl) rfl rfl (fun _ h => h) rfl rfl rfl (fun _ _ _ h => h) fun FK NK wK K => ?_
      refine WH.run 3 tt_ok rfl rfl rfl rfl trivial ?_
      refine WH.split (g := 85) rfl (fun h9 => ?_) (fun h9 => ?_)
      · replace H := of_t H h9
        refine WH.gskip rfl rfl rfl rfl rfl rfl rfl ?_
        refine WH.gskip rfl rfl rfl rfl rfl rfl rfl ?_
        refine WH.gskip rfl rfl rfl rfl rfl rfl rfl ?_
        refine WH.gskip rfl rfl rfl rfl rfl rfl rfl ?_
        refine WH.gskip rfl rfl rfl rfl rfl rfl rfl ?_
        refine WH.gskip rfl rfl rfl rfl rfl rfl rfl ?_
        refine WH.gskip rfl rfl rfl rfl rfl rfl rfl ?_
        refine WH.gskip rfl rfl rfl rfl rfl rfl rfl ?_
        refine WH.pick1 rfl rfl rfl rfl rfl rfl rfl ?_
        refine WH.run 1 tt_ok rfl rfl rfl rfl trivial ?_
        refine WH.gskip rfl rfl rfl rfl rfl rfl rfl ?_
        refine WH.gskip rfl rfl rfl rfl rfl rfl rfl ?_
        refine WH.gskip rfl rfl rfl rfl rfl rfl rfl ?_
        refine WH.gskip rfl rfl rfl rfl rfl rfl rfl ?_
        refine WH.gskip rfl rfl rfl rfl rfl rfl rfl ?_
        refine WH.pick1 rfl rfl rfl rfl rfl rfl rfl ?_
        refine WH.nil rfl ?_
        refine QT.n ?_
        refine WC.cond rfl (fun h => ?_) (fun h => absurd h (by decide))
        refine WC.seq ?_
        refine WC.region ?_
        refine WL.run 1 tt_ok sg0 rfl rfl trivial ?_
        refine WL.nil ?_
        refine QT.n ?_
        refine WC.ret ?_
        refine QB.r (QT.r (QT.r (QB.r (QT.r ?_))))
        cases H
        exact Ends.auto rfl rfl rfl trivial
      · replace H := of_f H h9
        refine WH.grun 6 2 false 85 tt_ok rfl rfl rfl rfl rfl rfl trivial ?_
        obtain ⟨x10, hx10, H⟩ := of_bind H
        refine WH.gcall [] rfl (octet_In_Left_s 2180 rfl _ hx10) octet_In_Left_f rfl rfl ⟨rfl, trivial⟩ rfl rfl rfl rfl rfl rfl rfl rfl ?_
        refine WH.grun 1 2 false 85 tt_ok rfl rfl rfl rfl rfl rfl trivial ?_
        refine WH.pick1 rfl rfl rfl rfl rfl rfl rfl ?_
        refine WH.run 1 tt_ok rfl rfl rfl rfl trivial ?_
        refine WH.split (g := 95) rfl (fun h11 => ?_) (fun h11 => ?_)
        · replace H := of_t H h11
          refine WH.gskip rfl rfl rfl rfl rfl rfl rfl ?_
          refine WH.gskip rfl rfl rfl rfl rfl rfl rfl ?_
          refine WH.gskip rfl rfl rfl rfl rfl rfl rfl ?_
          refine WH.gskip rfl rfl rfl rfl rfl rfl rfl ?_
          refine WH.gskip rfl rfl rfl rfl rfl rfl rfl ?_
          refine WH.pick1 rfl rfl rfl rfl rfl rfl rfl ?_
          refine WH.nil rfl ?_
          refine QT.n ?_
          refine WC.cond rfl (fun h => ?_) (fun h => absurd h (by decide))
          refine WC.seq ?_
          refine WC.region ?_
          refine WL.run 1 tt_ok sg0 rfl rfl trivial ?_
          refine WL.nil ?_
          refine QT.n ?_
          refine WC.ret ?_
          refine QB.r (QT.r (QT.r (QB.r (QT.r ?_))))
          cases H
          exact Ends.auto rfl rfl rfl trivial
        · replace H := of_f H h11
          refine WH.grun 3 12 false 95 tt_ok rfl rfl rfl rfl rfl rfl trivial ?_
          obtain ⟨x12, hx12, H⟩ := of_bind H
          refine WH.gcall [] rfl (octet_In_Err_s 2180 rfl _ hx12) octet_In_Err_f rfl rfl ⟨rfl, trivial⟩ rfl rfl rfl rfl rfl rfl rfl rfl ?_
          refine WH.grun 1 12 false 95 tt_ok rfl rfl rfl rfl rfl rfl trivial ?_
          refine WH.pick1 rfl rfl rfl rfl rfl rfl rfl ?_
          refine WH.nil rfl ?_
          refine QT.n ?_
          refine WC.cond rfl (fun h13 => ?_) (fun h13 => ?_)
          · replace H := of_t H h13
            refine WC.seq ?_
            refine WC.region ?_
            refine WL.run 1 tt_ok sg0 rfl rfl trivial ?_
            refine WL.nil ?_
            refine QT.n ?_
            refine WC.ret ?_
            refine QB.r (QT.r (QT.r (QB.r (QT.r ?_))))
            cases H
            exact Ends.auto rfl rfl rfl trivial
          replace H := of_f H h13
          refine WC.skip ?_
          refine QB.n (QT.n ?_)
          refine WC.region ?_
          refine WL.run 3 tt_ok sg0 rfl rfl trivial ?_
          refine WL.nil ?_
          refine QT.n ?_
          exact ⟨⟨(k3, (IntKind.i64.wrap (s2.1 + 1), x7.2.S, x7.2.At, x7.2.Err, x8.2.s, x8.2.at_, x8.2.err)), H⟩, Nat.lt_succ_self _, Less.mk' ⟨rfl, rfl, rfl, rfl, rfl, trivial⟩ ⟨rfl, rfl, trivial⟩⟩
    replace H := of_f H h6
    refine WC.seq ?_
    refine WC.region ?_
    refine WL.run 2 tt_ok sg0 rfl rfl trivial ?_
    refine WL.nil ?_
    refine QT.n ?_
    refine WC.cond rfl (fun h14 => ?_) (fun h14 => ?_)
    · replace H := of_t H h14
      refine WC.seq ?_
      refine WC.region ?_
      refine WL.run 1 tt_ok sg0 rfl rfl trivial ?_
      obtain ⟨x15, hx15, H⟩ := of_bind H
      refine WL.call [] (ref01_Number_0 _ hx15) ref01_Number_f rfl rfl trivial rfl rfl rfl ?_
      refine WL.run 3 tt_ok sg0 rfl rfl trivial ?_
      refine WL.alloc 112 tt_ok rfl rfl rfl ?_
      refine WL.run 1 tt_ok sg0 rfl rfl trivial ?_
      refine WL.eff 0 tt_ok et_ok eg0 rfl rfl rfl trivial ?_
      refine WL.nil ?_
      refine QT.n ?_
      refine WC.heldP (.one 0 true (.one 1 true (.one 3 true (.one 2 false (.one 4 true (.one 5 false (.one 6 true .done))))))) [106, 112, 2180] [112] rfl (by kernel_rfl) rfl (by kernel_rfl) rfl rfl (fun _ h => h) rfl rfl rfl (fun _ _ _ h => h) fun FK NK wK K => ?_
      refine WH.run 3 tt_ok rfl rfl rfl rfl trivial ?_
      obtain ⟨x16, hx16, H⟩ := of_bind H
      refine WH.call [] rfl (octet_In_Num_s 2180 rfl _ hx16) octet_In_Num_f rfl rfl ⟨rfl, trivial⟩ rfl rfl rfl rfl rfl ?_
      refine WH.run 1 tt_ok rfl rfl rfl rfl trivial ?_
      refine WH.eff 0 tt_ok et_ok rfl rfl rfl rfl trivial rfl rfl ?_
      refine WH.run 1 tt_ok rfl rfl rfl rfl trivial ?_
      refine WH.nil rfl ?_
      refine QB.n (QT.n ?_)
      refine WC.seq ?_
      refine WC.heldP (.one 0 true (.one 1 true (.one 2 true (.one 3 true (.one 5 true (.one 6 true (.one 7 true (.one 8 true (.one 9 true (.one 4 false (.one 10 true (.one 11 true (.one 12 true (.one 13 true (.one 15 true (.one 16 true (.one 14 false (.one 17 true (.one 18 true .done))))))))))))))))))) [106, 112, 2180] [106, 112] rfl (by kernel_rfl) rfl (by kernel_rfl) rfl rfl (fun _ h => h) rfl rfl rfl (fun _ _ _ h => h) fun FK NK wK K => ?_
      refine WH.run 3 tt_ok rfl rfl rfl rfl trivial ?_
      refine WH.split (g := 85) rfl (fun h17 => ?_) (fun h17 => ?_)
      · replace H := of_t H h17
        refine WH.gskip rfl rfl rfl rfl rfl rfl rfl ?_
        refine WH.gskip rfl rfl rfl rfl rfl rfl rfl ?_
        refine WH.gskip rfl rfl rfl rfl rfl rfl rfl ?_
        refine WH.gskip rfl rfl rfl rfl rfl rfl rfl ?_
        refine WH.gskip rfl rfl rfl rfl rfl rfl rfl ?_
        refine WH.gskip rfl rfl rfl rfl rfl rfl rfl ?_
        refine WH.gskip rfl rfl rfl rfl rfl rfl rfl ?_
        refine WH.gskip rfl rfl rfl rfl rfl rfl rfl ?_
        refine WH.pick1 rfl rfl rfl rfl rfl rfl rfl ?_
        refine WH.run 1 tt_ok rfl rfl rfl rfl trivial ?_
        refine WH.gskip rfl rfl rfl rfl rfl rfl rfl ?_
        refine WH.gskip rfl rfl rfl rfl rfl rfl rfl ?_
        refine WH.gskip rfl rfl rfl rfl rfl rfl rfl ?_
        refine WH.gskip rfl rfl rfl rfl rfl rfl rfl ?_
        refine WH.gskip rfl rfl rfl rfl rfl rfl rfl ?_
        refine WH.pick1 rfl rfl rfl rfl rfl rfl rfl ?_
        refine WH.nil rfl ?_
        refine QT.n ?_
        refine WC.cond rfl (fun h => ?_) (fun h => absurd h (by decide))
        refine WC.seq ?_
        refine WC.region ?_
        refine WL.run 1 tt_ok sg0 rfl rfl trivial ?_
        refine WL.nil ?_
        refine QT.n ?_
        refine WC.ret ?_
        refine QB.r (QT.r (QT.r (QB.r (QT.r ?_))))
        cases H
        exact Ends.auto rfl rfl rfl trivial
      · replace H := of_f H h17
        refine WH.grun 6 2 false 85 tt_ok rfl rfl rfl rfl rfl rfl trivial ?_
        obtain ⟨x18, hx18, H⟩ := of_bind H
        refine WH.gcall [] rfl (octet_In_Left_s 2180 rfl _ hx18) octet_In_Left_f rfl rfl ⟨rfl, trivial⟩ rfl rfl rfl rfl rfl rfl rfl rfl ?_
        refine WH.grun 1 2 false 85 tt_ok rfl rfl rfl rfl rfl rfl trivial ?_
        refine WH.pick1 rfl rfl rfl rfl rfl rfl rfl ?_
        refine WH.run 1 tt_ok rfl rfl rfl rfl trivial ?_
        refine WH.split (g := 95) rfl (fun h19 => ?_) (fun h19 => ?_)
        · replace H := of_t H h19
          refine WH.gskip rfl rfl rfl rfl rfl rfl rfl ?_
          refine WH.gskip rfl rfl rfl rfl rfl rfl rfl ?_
          refine WH.gskip rfl rfl rfl rfl rfl rfl rfl ?_
          refine WH.gskip rfl rfl rfl rfl rfl rfl rfl ?_
          refine WH.gskip rfl rfl rfl rfl rfl rfl rfl ?_
          refine WH.pick1 rfl rfl rfl rfl rfl rfl rfl ?_
          refine WH.nil rfl ?_
          refine QT.n ?_
          refine WC.cond rfl (fun h => ?_) (fun h => absurd h (by decide))
          refine WC.seq ?_
          refine WC.region ?_
          refine WL.run 1 tt_ok sg0 rfl rfl trivial ?_
          refine WL.nil ?_
          refine QT.n ?_
          refine WC.ret ?_
          refine QB.r (QT.r (QT.r (QB.r (QT.r ?_))))
          cases H
          exact Ends.auto rfl rfl rfl trivial
        · replace H := of_f H h19
          refine WH.grun 3 12 false 95 tt_ok rfl rfl rfl rfl rfl rfl trivial ?_
          obtain ⟨x20, hx20, H⟩ := of_bind H
          refine WH.gcall [] rfl (octet_In_Err_s 2180 rfl _ hx20) octet_In_Err_f rfl rfl ⟨rfl, trivial⟩ rfl rfl rfl rfl rfl rfl rfl rfl ?_
          refine WH.grun 1 12 false 95 tt_ok rfl rfl rfl rfl rfl rfl trivial ?_
          refine WH.pick1 rfl rfl rfl rfl rfl rfl rfl ?_
          refine WH.nil rfl ?_
          refine QT.n ?_
          refine WC.cond rfl (fun h21 => ?_) (fun h21 => ?_)
          · replace H := of_t H h21
            refine WC.seq ?_
            refine WC.region ?_
            refine WL.run 1 tt_ok sg0 rfl rfl trivial ?_
            refine WL.nil ?_
            refine QT.n ?_
            refine WC.ret ?_
            refine QB.r (QT.r (QT.r (QB.r (QT.r ?_))))
            cases H
            exact Ends.auto rfl rfl rfl trivial
          replace H := of_f H h21
          refine WC.skip ?_
          refine QB.n (QT.n ?_)
          refine WC.region ?_
          refine WL.run 3 tt_ok sg0 rfl rfl trivial ?_
          refine WL.nil ?_
          refine QT.n ?_
          exact ⟨⟨(k3, (IntKind.i64.wrap (s2.1 + 1), x15.2.S, x15.2.At, x15.2.Err, x16.2.s, x16.2.at_, x16.2.err)), H⟩, Nat.lt_succ_self _, Less.mk' ⟨rfl, rfl, rfl, rfl, rfl, trivial⟩ ⟨rfl, rfl, trivial⟩⟩
    replace H := of_f H h14
    refine WC.seq ?_
    refine WC.region ?_
    refine WL.run 2 tt_ok sg0 rfl rfl trivial ?_
    refine WL.nil ?_
    refine QT.n ?_
    refine WC.cond rfl (fun h22 => ?_) (fun h22 => ?_)
    · replace H := of_t H h22
      refine WC.seq ?_
      refine WC.region ?_
      refine WL.run 1 tt_ok sg0 rfl rfl trivial ?_
      obtain ⟨x23, hx23, H⟩ := of_bind H
      refine WL.call [] (ref01_Signed_0 _ hx23) ref01_Signed_f rfl rfl trivial rfl rfl rfl ?_
      refine WL.run 3 tt_ok sg0 rfl rfl trivial ?_
      refine WL.alloc 114 tt_ok rfl rfl rfl ?_
      refine WL.run 1 tt_ok sg0 rfl rfl trivial ?_
      refine WL.eff 0 tt_ok et_ok eg0 rfl rfl rfl trivial ?_
      refine WL.nil ?_
      refine QT.n ?_
      refine WC.heldP (.one 0 true (.one 1 true (.one 3 true (.one 2 false (.one 4 true (.one 5 false (.one 6 true .done))))))) [106, 114, 2180] [114] rfl (by kernel_rfl) rfl (by kernel_rfl) rfl rfl (fun _ h => h) rfl rfl rfl (fun _ _ _ h => h) fun FK NK wK K => ?_
      refine WH.run 3 tt_ok rfl rfl rfl rfl trivial ?_
      obtain ⟨x24, hx24, H⟩ := of_bind H
      refine WH.call [] rfl (octet_In_Int_s 2180 rfl _ hx24) octet_In_Int_f rfl rfl ⟨rfl, trivial⟩ rfl rfl rfl rfl rfl ?_
      refine WH.run 1 tt_ok rfl rfl rfl rfl trivial ?_
      refine WH.eff 0 tt_ok et_ok rfl rfl rfl rfl trivial rfl rfl ?_
      refine WH.run 1 tt_ok rfl rfl rfl rfl trivial ?_
      refine WH.nil rfl ?_
      refine QB.n (QT.n ?_)
      refine WC.seq ?_
      refine WC.heldP (.one 0 true (.one 1 true (.one 2 true (.one 3 true (.one 5 true (.one 6 true (.one 7 true (.one 8 true (.one 9 true (.one 4 false (.one 10 true (.one 11 true (.one 12 true (.one 13 true (.one 15 true (.one 16 true (.one 14 false (.one 17 true (.one 18 true .done))))))))))))))))))) [106, 114, 2180] [106, 114] rfl (by kernel_rfl) rfl (by kernel_rfl) rfl rfl (fun _ h => h) rfl rfl rfl (fun _ _ _ h => h) fun FK NK wK K => ?_
      refine WH.run 3 tt_ok rfl rfl rfl rfl trivial ?_
      refine WH.split (g := 85) rfl (fun h25 => ?_) (fun h25 => ?_)
      · replace H := of_t H h25
        refine WH.gskip rfl rfl rfl rfl rfl rfl rfl ?_
        refine WH.gskip rfl rfl rfl rfl rfl rfl rfl ?_
        refine WH.gskip rfl rfl rfl rfl rfl rfl rfl ?_
        refine WH.gskip rfl rfl rfl rfl rfl rfl rfl ?_
        refine WH.gskip rfl rfl rfl rfl rfl rfl rfl ?_
        refine WH.gskip rfl rfl rfl rfl rfl rfl rfl ?_
        refine WH.gskip rfl rfl rfl rfl rfl rfl rfl ?_
        refine WH.gskip rfl rfl rfl rfl rfl rfl rfl ?_
        refine WH.pick1 rfl rfl rfl rfl rfl rfl rfl ?_
        refine WH.run 1 tt_ok rfl rfl rfl rfl trivial ?_
        refine WH.gskip rfl rfl rfl rfl rfl rfl rfl ?_
        refine WH.gskip rfl rfl rfl rfl rfl rfl rfl ?_
        refine WH.gskip rfl rfl rfl rfl rfl rfl rfl ?_
        refine WH.gskip rfl rfl rfl rfl rfl rfl rfl ?_
        refine WH.gskip rfl rfl rfl rfl rfl rfl rfl ?_
        refine WH.pick1 rfl rfl rfl rfl rfl rfl rfl ?_
        refine WH.nil rfl ?_
        refine QT.n ?_
        refine WC.cond rfl (fun h => ?_) (fun h => absurd h (by decide))
        refine WC.seq ?_
        refine WC.region ?_
        refine WL.run 1 tt_ok sg0 rfl rfl trivial ?_
        refine WL.nil ?_
        refine QT.n ?_
        refine WC.ret ?_
        refine QB.r (QT.r (QT.r (QB.r (QT.r ?_))))
        cases H
        exact Ends.auto rfl rfl rfl trivial
      · replace H := of_f H h25
        refine WH.grun 6 2 false 85 tt_ok rfl rfl rfl rfl rfl rfl trivial ?_
        obtain ⟨x26, hx26, H⟩ := of_bind H
        refine WH.gcall [] rfl (octet_In_Left_s 2180 rfl _ hx26) octet_In_Left_f rfl rfl ⟨rfl, trivial⟩ rfl rfl rfl rfl rfl rfl rfl rfl ?_
        refine WH.grun 1 2 false 85 tt_ok rfl rfl rfl rfl rfl rfl trivial ?_
        refine WH.pick1 rfl rfl rfl rfl rfl rfl rfl ?_
        refine WH.run 1 tt_ok rfl rfl rfl rfl trivial ?_
        refine WH.split (g := 95) rfl (fun h27 => ?_) (fun h27 => ?_)
        · replace H := of_t H h27
          refine WH.gskip rfl rfl rfl rfl rfl rfl rfl ?_
          refine WH.gskip rfl rfl rfl rfl rfl rfl rfl ?_
          refine WH.gskip rfl rfl rfl rfl rfl rfl rfl ?_
          refine WH.gskip rfl rfl rfl rfl rfl rfl rfl ?_
          refine WH.gskip rfl rfl rfl rfl rfl rfl rfl ?_
          refine WH.pick1 rfl rfl rfl rfl rfl rfl rfl ?_
          refine WH.nil rfl ?_
          refine QT.n ?_
          refine WC.cond rfl (fun h => ?_) (fun h => absurd h (by decide))
          refine WC.seq ?_
          refine WC.region ?_
          refine WL.run 1 tt_ok sg0 rfl rfl trivial ?_
          refine WL.nil ?_
          refine QT.n ?_
          refine WC.ret ?_
          refine QB.r (QT.r (QT.r (QB.r (QT.r ?_))))
          cases H
          exact Ends.auto rfl rfl rfl trivial
        · replace H := of_f H h27
          refine WH.grun 3 12 false 95 tt_ok rfl rfl rfl rfl rfl rfl trivial ?_
          obtain ⟨x28, hx28, H⟩ := of_bind H
          refine WH.gcall [] rfl (octet_In_Err_s 2180 rfl _ hx28) octet_In_Err_f rfl rfl ⟨rfl, trivial⟩ rfl rfl rfl rfl rfl rfl rfl rfl ?_
          refine WH.grun 1 12 false 95 tt_ok rfl rfl rfl rfl rfl rfl trivial ?_
          refine WH.pick1 rfl rfl rfl rfl rfl rfl rfl ?_
          refine WH.nil rfl ?_
          refine QT.n ?_
          refine WC.cond rfl (fun h29 => ?_) (fun h29 => ?_)
          · replace H := of_t H h29
            refine WC.seq ?_
            refine WC.region ?_
            refine WL.run 1 tt_ok sg0 rfl rfl trivial ?_
            refine WL.nil ?_
            refine QT.n ?_
            refine WC.ret ?_
            refine QB.r (QT.r (QT.r (QB.r (QT.r ?_))))
            cases H
            exact Ends.auto rfl rfl rfl trivial
          replace H := of_f H h29
          refine WC.skip ?_
          refine QB.n (QT.n ?_)
          refine WC.region ?_
          refine WL.run 3 tt_ok sg0 rfl rfl trivial ?_
          refine WL.nil ?_
          refine QT.n ?_
          exact ⟨⟨(k3, (IntKind.i64.wrap (s2.1 + 1), x23.2.S, x23.2.At, x23.2.Err, x24.2.s, x24.2.at_, x24.2.err)), H⟩, Nat.lt_succ_self _, Less.mk' ⟨rfl, rfl, rfl, rfl, rfl, trivial⟩ ⟨rfl, rfl, trivial⟩⟩
    replace H := of_f H h22
    refine WC.seq ?_
    refine WC.region ?_
    refine WL.run 1 tt_ok sg0 rfl rfl trivial ?_
    obtain ⟨x30, hx30, H⟩ := of_bind H
    refine WL.call [] (ref01_Words_0 _ hx30) ref01_Words_f rfl rfl trivial rfl rfl rfl ?_
    refine WL.run 3 tt_ok sg0 rfl rfl trivial ?_
    refine WL.alloc 116 tt_ok rfl rfl rfl ?_
    refine WL.run 1 tt_ok sg0 rfl rfl trivial ?_
    refine WL.eff 0 tt_ok et_ok eg0 rfl rfl rfl trivial ?_
    refine WL.nil ?_
    refine QT.n ?_
    refine WC.heldP (.one 0 true (.one 1 true (.one 3 true (.one 2 false (.one 4 true (.one 5 false (.one 6 true .done))))))) [106, 116, 2180] [116] rfl (by kernel_rfl) rfl (by kernel_rfl) rfl rfl (fun _ h => h) rfl rfl rfl (fun _ _ _ h => h) fun FK NK wK K => ?_
    refine WH.run 3 tt_ok rfl rfl rfl rfl trivial ?_
    obtain ⟨x31, hx31, H⟩ := of_bind H
    refine WH.call [] rfl (octet_In_Text_s 2180 rfl _ hx31) octet_In_Text_f rfl rfl ⟨rfl, trivial⟩ rfl rfl rfl rfl rfl ?_
    refine WH.run 1 tt_ok rfl rfl rfl rfl trivial ?_
    refine WH.eff 0 tt_ok et_ok rfl rfl rfl rfl trivial rfl rfl ?_
    refine WH.run 1 tt_ok rfl rfl rfl rfl trivial ?_
    refine WH.nil rfl ?_
    refine QB.n (QT.n ?_)
    refine WC.seq ?_
    refine WC.heldP (.one 0 true (.one 1 true (.one 2 true (.one 3 true (.one 5 true (.one 6 true (.one 7 true (.one 8 true (.one 9 true (.one 4 false (.one 10 true (.one 11 true (.one 12 true (.one 13 true (.one 15 true (.one 16 true (.one 14 false (.one 17 true (.one 18 true .done))))))))))))))))))) [106, 116, 2180] [106, 116] rfl (by kernel_rfl) rfl (by kernel_rfl) rfl rfl (fun _ h => h) rfl rfl rfl (fun _ _ _ h => h) fun FK NK wK K => ?_
    refine WH.run 3 tt_ok rfl rfl rfl rfl trivial ?_
    refine WH.split (g := 85) rfl (fun h32 => ?_) (fun h32 => ?_)
    · replace H := of_t H h32
      refine WH.gskip rfl rfl rfl rfl rfl rfl rfl ?_
      refine WH.gskip rfl rfl rfl rfl rfl rfl rfl ?_
      refine WH.gskip rfl rfl rfl rfl rfl rfl rfl ?_
      refine WH.gskip rfl rfl rfl rfl rfl rfl rfl ?_
      refine WH.gskip rfl rfl rfl rfl rfl rfl rfl ?_
      refine WH.gskip rfl rfl rfl rfl rfl rfl rfl ?_
      refine WH.gskip rfl rfl rfl rfl rfl rfl rfl ?_
      refine WH.gskip rfl rfl rfl rfl rfl rfl rfl ?_
      refine WH.pick1 rfl rfl rfl rfl rfl rfl rfl ?_
      refine WH.run 1 tt_ok rfl rfl rfl rfl trivial ?_
      refine WH.gskip rfl rfl rfl rfl rfl rfl rfl ?_
      refine WH.gskip rfl rfl rfl rfl rfl rfl rfl ?_
      refine WH.gskip rfl rfl rfl rfl rfl rfl rfl ?_
      refine WH.gskip rfl rfl rfl rfl rfl rfl rfl ?_
      refine WH.gskip rfl rfl rfl rfl rfl rfl rfl ?_
      refine WH.pick1 rfl rfl rfl rfl rfl rfl rfl ?_
      refine WH.nil rfl ?_
      refine QT.n ?_
      refine WC.cond rfl (fun h => ?_) (fun h => absurd h (by decide))
      refine WC.seq ?_
      refine WC.region ?_
      refine WL.run 1 tt_ok sg0 rfl rfl trivial ?_
      refine WL.nil ?_
      refine QT.n ?_
      refine WC.ret ?_
      refine QB.r (QT.r (QT.r (QB.r (QT.r ?_))))
      cases H
      exact Ends.auto rfl rfl rfl trivial
    · replace H := of_f H h32
      refine WH.grun 6 2 false 85 tt_ok rfl rfl rfl rfl rfl rfl trivial ?_
      obtain ⟨x33, hx33, H⟩ := of_bind H
      refine WH.gcall [] rfl (octet_In_Left_s 2180 rfl _ hx33) octet_In_Left_f rfl rfl ⟨rfl, trivial⟩ rfl rfl rfl rfl rfl rfl rfl rfl ?_
      refine WH.grun 1 2 false 85 tt_ok rfl rfl rfl rfl rfl rfl trivial ?_
      refine WH.pick1 rfl rfl rfl rfl rfl rfl rfl ?_
      refine WH.run 1 tt_ok rfl rfl rfl rfl trivial ?_
      refine WH.split (g := 95) rfl (fun h34 => ?_) (fun h34 => ?_)
      · replace H := of_t H h34
        refine WH.gskip rfl rfl rfl rfl rfl rfl rfl ?_
        refine WH.gskip rfl rfl rfl rfl rfl rfl rfl ?_
        refine WH.gskip rfl rfl rfl rfl rfl rfl rfl ?_
        refine WH.gskip rfl rfl rfl rfl rfl rfl rfl ?_
        refine WH.gskip rfl rfl rfl rfl rfl rfl rfl ?_
        refine WH.pick1 rfl rfl rfl rfl rfl rfl rfl ?_
        refine WH.nil rfl ?_
        refine QT.n ?_
        refine WC.cond rfl (fun h => ?_) (fun h => absurd h (by decide))
        refine WC.seq ?_
        refine WC.region ?_
        refine WL.run 1 tt_ok sg0 rfl rfl trivial ?_
        refine WL.nil ?_
        refine QT.n ?_
        refine WC.ret ?_
        refine QB.r (QT.r (QT.r (QB.r (QT.r ?_))))
        cases H
        exact Ends.auto rfl rfl rfl trivial
      · replace H := of_f H h34
        refine WH.grun 3 12 false 95 tt_ok rfl rfl rfl rfl rfl rfl trivial ?_
        obtain ⟨x35, hx35, H⟩ := of_bind H
        refine WH.gcall [] rfl (octet_In_Err_s 2180 rfl _ hx35) octet_In_Err_f rfl rfl ⟨rfl, trivial⟩ rfl rfl rfl rfl rfl rfl rfl rfl ?_
        refine WH.grun 1 12 false 95 tt_ok rfl rfl rfl rfl rfl rfl trivial ?_
        refine WH.pick1 rfl rfl rfl rfl rfl rfl rfl ?_
        refine WH.nil rfl ?_
        refine QT.n ?_
        refine WC.cond rfl (fun h36 => ?_) (fun h36 => ?_)
        · replace H := of_t H h36
          refine WC.seq ?_
          refine WC.region ?_
          refine WL.run 1 tt_ok sg0 rfl rfl trivial ?_
          refine WL.nil ?_
          refine QT.n ?_
          refine WC.ret ?_
          refine QB.r (QT.r (QT.r (QB.r (QT.r ?_))))
          cases H
          exact Ends.auto rfl rfl rfl trivial
        replace H := of_f H h36
        refine WC.skip ?_
        refine QB.n (QT.n ?_)
        refine WC.region ?_
        refine WL.run 3 tt_ok sg0 rfl rfl trivial ?_
        refine WL.nil ?_
        refine QT.n ?_
        exact ⟨⟨(k3, (IntKind.i64.wrap (s2.1 + 1), x30.2.S, x30.2.At, x30.2.Err, x31.2.s, x31.2.at_, x31.2.err)), H⟩, Nat.lt_succ_self _, Less.mk' ⟨rfl, rfl, rfl, rfl, rfl, trivial⟩ ⟨rfl, rfl, trivial⟩⟩
  replace H := of_f H h4
  refine WC.exit ?_
  refine QT.x (QT.x (QB.hit (QT.n ?_)))
  refine WC.seq ?_
  refine WC.region ?_
  obtain ⟨x37, hx37, H⟩ := of_bind H
  refine WL.call [] (law01_lives_0 hx37) law01_lives_f rfl rfl trivial rfl rfl rfl ?_
  refine WL.run 1 tt_ok sg0 rfl rfl trivial ?_
  refine WL.nil ?_
  refine QT.n ?_
  refine WC.ret ?_
  cases H
  exact Ends.auto rfl rfl rfl trivial
theorem law01_OctetReads_f : hasFunc Try.prog 6 Try.f6 := ⟨Try.func6, rfl, by kernel_rfl⟩

/-! ### logjam/logjamlaw01.OctetBack -/
theorem law01_OctetBack_0 (a0 : List T_ref01_Op) (a1 : ByteArray) {r : Bool} (H : law01_OctetBack a0 a1 = some r) : LJ.Spec Try.prog 7 [.d (slT enc_ref01_Op a0), .d (.str a1)] [] (.d (.bool r)) [] := by
  refine LJ.Spec.code Try.func7 rfl 95 rfl rfl [] rfl fun w0 F0 S0 B0 => ?_
  unfold law01_OctetBack at H
  refine WC.seq ?_
  refine WC.region ?_
  refine WL.run 1 tt_ok sg0 rfl rfl trivial ?_
  refine WL.nil ?_
  refine QT.n ?_
  refine WC.seq ?_
  refine WC.region ?_
  refine WL.run 1 tt_ok sg0 rfl rfl trivial ?_
  refine WL.eff 112 tt_ok et_ok eg0 rfl rfl rfl trivial ?_
  refine WL.run 1 tt_ok sg0 rfl rfl trivial ?_
  refine WL.nil ?_
  refine QT.n ?_
  refine WC.seq ?_
  refine WC.seq ?_
  refine WC.region ?_
  refine WL.run 1 tt_ok sg0 rfl rfl trivial ?_
  refine WL.nil ?_
  refine QT.n ?_
  refine WC.block ?_
  refine WC.nilF 112 0 4120 5 1 rfl ?_
  refine WC.loop (ι := {x : Nat × (Int × ByteArray) // law01_OctetBack_l3 a0 a1 x.1 x.2 = some r}) (fun x => [(0, .d (slT enc_ref01_Op a0)), (1, .d (.str a1)), (5, .ptr 112 0), (6, .d (.int .i64 x.1.2.1))]) (fun x => [(112, .box 27 [.own 4120]), (4120, .row 5 1 (rowOf x.1.2.2))]) (fun x => x.1.1) ⟨(fuel, (0, ByteArray.empty)), H⟩ (Less.mk' ⟨rfl, rfl, rfl, rfl, trivial⟩ ⟨rfl, rfl, trivial⟩) fun x => ?_
  obtain ⟨⟨k3, s2⟩, H⟩ := x
  rcases k3 with _ | k3
  · exact of_none H
  rw [law01_OctetBack_l3] at H
  refine WC.seq ?_
  refine WC.seq ?_
  refine WC.region ?_
  refine WL.run 5 tt_ok sg0 rfl rfl trivial ?_
  refine WL.sect 2 4 true tt_ok sg0 rfl rfl (fun _ => trivial) ?_
  refine WL.run 1 tt_ok sg0 rfl rfl ⟨by first | exact id | exact fun h => by rw [h]; rfl | simp_all, trivial⟩ ?_
  refine WL.nil ?_
  refine QT.n ?_
  refine WC.cond rfl (fun h4 => ?_) (fun h4 => ?_)
  · replace H := of_t H h4
    refine WC.skip ?_
    refine QT.n ?_
    refine WC.seq ?_
    refine WC.block ?_
    refine WC.region ?_
    obtain ⟨g5, H⟩ := of_need H
    refine WL.run 5 tt_ok sg0 rfl rfl ⟨⟨(nIn_ok g5).1, (nIn_ok g5).2, rfl⟩, trivial⟩ ?_
    obtain ⟨x6, hx6, H⟩ := of_bind H
    refine WL.call [4120] (law01_put_s 112 4120 rfl _ _ hx6) law01_put_f rfl rfl ⟨rfl, rfl, trivial⟩ rfl rfl rfl ?_
    refine WL.nil ?_
    refine QB.n (QT.n ?_)
    refine WC.region ?_
    refine WL.run 3 tt_ok sg0 rfl rfl trivial ?_
    refine WL.nil ?_
    refine QT.n ?_
    exact ⟨⟨(k3, (IntKind.i64.wrap (s2.1 + 1), x6.b)), H⟩, Nat.lt_succ_self _, Less.mk' ⟨rfl, rfl, rfl, rfl, trivial⟩ ⟨rfl, rfl, trivial⟩⟩
  replace H := of_f H h4
  refine WC.exit ?_
  refine QT.x (QT.x (QB.hit (QT.n ?_)))
  refine WC.seq ?_
  refine WC.region ?_
  refine WL.run 1 tt_ok sg0 rfl rfl trivial ?_
  obtain ⟨x7, hx7, H⟩ := of_bind H
  refine WL.call [4120] (octet_Out_Done_s 112 4120 rfl _ hx7) octet_Out_Done_f rfl rfl ⟨rfl, rfl, trivial⟩ rfl rfl rfl ?_
  obtain ⟨g8, H⟩ := of_need H
  refine WL.run 2 tt_ok sg0 rfl rfl ⟨(nStr_ok g8), trivial⟩ ?_
  obtain ⟨x9, hx9, H⟩ := of_bind H
  refine WL.call [2330] (octet_Open_s 2330 rfl _ hx9) octet_Open_f rfl rfl trivial rfl rfl rfl ?_
  refine WL.run 1 tt_ok sg0 rfl rfl trivial ?_
  refine WL.nil ?_
  refine QT.n ?_
  refine WC.seq ?_
  refine WC.seq ?_
  refine WC.region ?_
  refine WL.run 2 tt_ok sg0 rfl rfl trivial ?_
  refine WL.nil ?_
  refine QT.n ?_
  refine WC.cond rfl (fun h => absurd h (by decide)) (fun h => ?_)
  refine WC.skip ?_
  refine QT.n ?_
  refine WC.seq ?_
  refine WC.seq ?_
  refine WC.region ?_
  refine WL.run 1 tt_ok sg0 rfl rfl trivial ?_
  refine WL.nil ?_
  refine QT.n ?_
  refine WC.block ?_
  refine WC.loop (ι := {x : Nat × (Int × ByteArray × Int × Int) // law01_OctetBack_l11 a0 a1 x.1 x.2 = some r}) (fun x => [(0, .d (slT enc_ref01_Op a0)), (1, .d (.str a1)), (7, .ptr 2330 0), (8, .d (.int .i64 x.1.2.1))]) (fun x => [(2330, .box 59 [.d (.str x.1.2.2.1), .d (.int .i64 x.1.2.2.2.1), .d (.int .i64 x.1.2.2.2.2)])]) (fun x => x.1.1) ⟨(fuel, (0, x9.s, x9.at_, x9.err)), H⟩ (Less.mk' ⟨rfl, rfl, rfl, rfl, trivial⟩ ⟨rfl, trivial⟩) fun x => ?_
  obtain ⟨⟨k11, s10⟩, H⟩ := x
  rcases k11 with _ | k11
  · exact of_none H
  rw [law01_OctetBack_l11] at H
  refine WC.seq ?_
  refine WC.seq ?_
  refine WC.region ?_
  refine WL.run 5 tt_ok sg0 rfl rfl trivial ?_
  refine WL.sect 2 4 true tt_ok sg0 rfl rfl (fun _ => trivial) ?_
  refine WL.run 1 tt_ok sg0 rfl rfl ⟨by first | exact id | exact fun h => by rw [h]; rfl | simp_all, trivial⟩ ?_
  refine WL.nil ?_
  refine QT.n ?_
  refine WC.cond rfl (fun h12 => ?_) (fun h12 => ?_)
  · replace H := of_t H h12
    refine WC.skip ?_
    refine QT.n ?_
    refine WC.seq ?_
    refine WC.block ?_
    refine WC.seq ?_
    refine WC.region ?_
    obtain ⟨g13, H⟩ := of_need H
    refine WL.run 4 tt_ok sg0 rfl rfl ⟨⟨(nIn_ok g13).1, (nIn_ok g13).2, rfl⟩, trivial⟩ ?_
    refine WL.alloc 109 tt_ok rfl rfl rfl ?_
    refine WL.eff 0 tt_ok et_ok eg0 rfl rfl rfl trivial ?_
    refine WL.run 1 tt_ok sg0 rfl rfl trivial ?_
    refine WL.nil ?_
    refine QT.n ?_
    refine WC.seq ?_
    refine WC.seq ?_
    refine WC.region ?_
    refine WL.run 2 tt_ok sg0 rfl rfl trivial ?_
    refine WL.nil ?_
    refine QT.n ?_
    refine WC.block ?_
    refine WC.seq ?_
    refine WC.region ?_
    refine WL.run 2 tt_ok sg0 rfl rfl trivial ?_
    refine WL.nil ?_
    refine QT.n ?_
    refine WC.cond rfl (fun h14 => ?_) (fun h14 => ?_)
    · replace H := of_t H h14
      refine WC.heldP (.one 0 true (.one 2 true (.one 3 true (.one 4 true (.one 5 true (.one 1 false (.one 6 true (.one 7 true .done)))))))) [109, 2330] [109] rfl (by kernel_rfl) rfl (by kernel_rfl) rfl rfl (fun _ h => h) rfl rfl rfl (fun _ _ _ h => h) fun FK NK wK K => ?_
      refine WH.run 5 tt_ok rfl rfl rfl rfl trivial ?_
      obtain ⟨x15, hx15, H⟩ := of_bind H
      refine WH.call [] rfl (octet_In_Byte_s 2330 rfl _ hx15) octet_In_Byte_f rfl rfl ⟨rfl, trivial⟩ rfl rfl rfl rfl rfl ?_
      refine WH.run 2 tt_ok rfl rfl rfl rfl trivial ?_
      refine WH.nil rfl ?_
      refine QB.n (QT.n ?_)
      refine WC.seq ?_
      refine WC.region ?_
      refine WL.run 2 tt_ok sg0 rfl rfl trivial ?_
      refine WL.nil ?_
      refine QT.n ?_
      refine WC.cond rfl (fun h16 => ?_) (fun h16 => ?_)
      · replace H := of_t H h16
        refine WC.seq ?_
        refine WC.region ?_
        refine WL.run 1 tt_ok sg0 rfl rfl trivial ?_
        refine WL.nil ?_
        refine QT.n ?_
        refine WC.ret ?_
        refine QB.r (QT.r (QT.r (QB.r (QT.r ?_))))
        cases H
        exact Ends.auto rfl rfl rfl trivial
      replace H := of_f H h16
      refine WC.skip ?_
      refine QB.n (QT.n ?_)
      refine WC.region ?_
      refine WL.run 3 tt_ok sg0 rfl rfl trivial ?_
      refine WL.nil ?_
      refine QT.n ?_
      exact ⟨⟨(k11, (IntKind.i64.wrap (s10.1 + 1), x15.2.s, x15.2.at_, x15.2.err)), H⟩, Nat.lt_succ_self _, Less.mk' ⟨rfl, rfl, rfl, rfl, trivial⟩ ⟨rfl, trivial⟩⟩
    replace H := of_f H h14
    refine WC.seq ?_
    refine WC.region ?_
    refine WL.run 2 tt_ok sg0 rfl rfl trivial ?_
    refine WL.nil ?_
    refine QT.n ?_
    refine WC.cond rfl (fun h17 => ?_) (fun h17 => ?_)
    · replace H := of_t H h17
      refine WC.heldP (.one 0 true (.one 2 true (.one 3 true (.one 1 false (.one 4 true (.one 5 true .done)))))) [109, 2330] [109] rfl (by kernel_rfl) rfl (by kernel_rfl) rfl rfl (fun _ h => h) rfl rfl rfl (fun _ _ _ h => h) fun FK NK wK K => ?_
      refine WH.run 3 tt_ok rfl rfl rfl rfl trivial ?_
      obtain ⟨x18, hx18, H⟩ := of_bind H
      refine WH.call [] rfl (octet_In_Num_s 2330 rfl _ hx18) octet_In_Num_f rfl rfl ⟨rfl, trivial⟩ rfl rfl rfl rfl rfl ?_
      refine WH.run 2 tt_ok rfl rfl rfl rfl trivial ?_
      refine WH.nil rfl ?_
      refine QB.n (QT.n ?_)
      refine WC.seq ?_
      refine WC.region ?_
      refine WL.run 2 tt_ok sg0 rfl rfl trivial ?_
      refine WL.nil ?_
      refine QT.n ?_
      refine WC.cond rfl (fun h19 => ?_) (fun h19 => ?_)
      · replace H := of_t H h19
        refine WC.seq ?_
        refine WC.region ?_
        refine WL.run 1 tt_ok sg0 rfl rfl trivial ?_
        refine WL.nil ?_
        refine QT.n ?_
        refine WC.ret ?_
        refine QB.r (QT.r (QT.r (QB.r (QT.r ?_))))
        cases H
        exact Ends.auto rfl rfl rfl trivial
      replace H := of_f H h19
      refine WC.skip ?_
      refine QB.n (QT.n ?_)
      refine WC.region ?_
      refine WL.run 3 tt_ok sg0 rfl rfl trivial ?_
      refine WL.nil ?_
      refine QT.n ?_
      exact ⟨⟨(k11, (IntKind.i64.wrap (s10.1 + 1), x18.2.s, x18.2.at_, x18.2.err)), H⟩, Nat.lt_succ_self _, Less.mk' ⟨rfl, rfl, rfl, rfl, trivial⟩ ⟨rfl, trivial⟩⟩
    replace H := of_f H h17
    refine WC.seq ?_
    refine WC.region ?_
    refine WL.run 2 tt_ok sg0 rfl rfl trivial ?_
    refine WL.nil ?_
    refine QT.n ?_
    refine WC.cond rfl (fun h20 => ?_) (fun h20 => ?_)
    · replace H := of_t H h20
      refine WC.heldP (.one 0 true (.one 2 true (.one 3 true (.one 1 false (.one 4 true (.one 5 true .done)))))) [109, 2330] [109] rfl (by kernel_rfl) rfl (by kernel_rfl) rfl rfl (fun _ h => h) rfl rfl rfl (fun _ _ _ h => h) fun FK NK wK K => ?_
      refine WH.run 3 tt_ok rfl rfl rfl rfl trivial ?_
      obtain ⟨x21, hx21, H⟩ := of_bind H
      refine WH.call [] rfl (octet_In_Int_s 2330 rfl _ hx21) octet_In_Int_f rfl rfl ⟨rfl, trivial⟩ rfl rfl rfl rfl rfl ?_
      refine WH.run 2 tt_ok rfl rfl rfl rfl trivial ?_
      refine WH.nil rfl ?_
      refine QB.n (QT.n ?_)
      refine WC.seq ?_
      refine WC.region ?_
      refine WL.run 2 tt_ok sg0 rfl rfl trivial ?_
      refine WL.nil ?_
      refine QT.n ?_
      refine WC.cond rfl (fun h22 => ?_) (fun h22 => ?_)
      · replace H := of_t H h22
        refine WC.seq ?_
        refine WC.region ?_
        refine WL.run 1 tt_ok sg0 rfl rfl trivial ?_
        refine WL.nil ?_
        refine QT.n ?_
        refine WC.ret ?_
        refine QB.r (QT.r (QT.r (QB.r (QT.r ?_))))
        cases H
        exact Ends.auto rfl rfl rfl trivial
      replace H := of_f H h22
      refine WC.skip ?_
      refine QB.n (QT.n ?_)
      refine WC.region ?_
      refine WL.run 3 tt_ok sg0 rfl rfl trivial ?_
      refine WL.nil ?_
      refine QT.n ?_
      exact ⟨⟨(k11, (IntKind.i64.wrap (s10.1 + 1), x21.2.s, x21.2.at_, x21.2.err)), H⟩, Nat.lt_succ_self _, Less.mk' ⟨rfl, rfl, rfl, rfl, trivial⟩ ⟨rfl, trivial⟩⟩
    replace H := of_f H h20
    refine WC.heldP (.one 0 true (.one 2 true (.one 3 true (.one 1 false (.one 4 true (.one 5 true .done)))))) [109, 2330] [109] rfl (by kernel_rfl) rfl (by kernel_rfl) rfl rfl (fun _ h => h) rfl rfl rfl (fun _ _ _ h => h) fun FK NK wK K => ?_
    refine WH.run 3 tt_ok rfl rfl rfl rfl trivial ?_
    obtain ⟨x23, hx23, H⟩ := of_bind H
    refine WH.call [] rfl (octet_In_Text_s 2330 rfl _ hx23) octet_In_Text_f rfl rfl ⟨rfl, trivial⟩ rfl rfl rfl rfl rfl ?_
    refine WH.run 2 tt_ok rfl rfl rfl rfl trivial ?_
    refine WH.nil rfl ?_
    refine QB.n (QT.n ?_)
    refine WC.seq ?_
    refine WC.region ?_
    refine WL.run 2 tt_ok sg0 rfl rfl trivial ?_
    refine WL.nil ?_
    refine QT.n ?_
    refine WC.cond rfl (fun h24 => ?_) (fun h24 => ?_)
    · replace H := of_t H h24
      refine WC.seq ?_
      refine WC.region ?_
      refine WL.run 1 tt_ok sg0 rfl rfl trivial ?_
      refine WL.nil ?_
      refine QT.n ?_
      refine WC.ret ?_
      refine QB.r (QT.r (QT.r (QB.r (QT.r ?_))))
      cases H
      exact Ends.auto rfl rfl rfl trivial
    replace H := of_f H h24
    refine WC.skip ?_
    refine QB.n (QT.n ?_)
    refine WC.region ?_
    refine WL.run 3 tt_ok sg0 rfl rfl trivial ?_
    refine WL.nil ?_
    refine QT.n ?_
    exact ⟨⟨(k11, (IntKind.i64.wrap (s10.1 + 1), x23.2.s, x23.2.at_, x23.2.err)), H⟩, Nat.lt_succ_self _, Less.mk' ⟨rfl, rfl, rfl, rfl, trivial⟩ ⟨rfl, trivial⟩⟩
  replace H := of_f H h12
  refine WC.exit ?_
  refine QT.x (QT.x (QB.hit (QT.n ?_)))
  refine WC.seq ?_
  refine WC.region ?_
  refine WL.run 1 tt_ok sg0 rfl rfl trivial ?_
  obtain ⟨x25, hx25, H⟩ := of_bind H
  refine WL.call [] (octet_In_Left_s 2330 rfl _ hx25) octet_In_Left_f rfl rfl ⟨rfl, trivial⟩ rfl rfl rfl ?_
  refine WL.run 4 tt_ok sg0 rfl rfl trivial ?_
  refine WL.split (g := 87) rfl (fun h26 => ?_) (fun h26 => ?_)
  · replace H := of_t H h26
    refine WL.grun 1 5 true 87 tt_ok sg0 rfl rfl rfl rfl trivial ?_
    obtain ⟨x27, hx27, H⟩ := of_bind H
    refine WL.gcall [] (octet_In_Err_s 2330 rfl _ hx27) octet_In_Err_f rfl rfl ⟨rfl, trivial⟩ rfl rfl rfl rfl rfl rfl ?_
    refine WL.grun 1 5 true 87 tt_ok sg0 rfl rfl rfl rfl trivial ?_
    refine WL.pickT rfl rfl rfl rfl rfl rfl ?_
    refine WL.run 1 tt_ok sg0 rfl rfl trivial ?_
    obtain ⟨x28, hx28, H⟩ := of_bind H
    refine WL.sect 1 10 true tt_ok [PSig.at' law01_lives_f ((iEq x27 0) = true) rfl (fun hb => law01_lives_0  (of_t hx28 hb))] rfl rfl (fun hb => ⟨⟨hb, rfl⟩, trivial⟩) ?_
    refine WL.run 2 tt_ok sg0 rfl rfl ⟨by first | exact id | exact fun h => by rw [h]; rfl | simp_all, trivial⟩ ?_
    refine WL.nil ?_
    refine QT.n ?_
    refine WC.ret ?_
    cases H
    exact Ends.auto rfl rfl rfl trivial
  · replace H := of_f H h26
    refine WL.gskips 3 5 true 87 rfl rfl rfl rfl ?_
    refine WL.pickF rfl rfl rfl rfl rfl rfl ?_
    refine WL.run 1 tt_ok sg0 rfl rfl trivial ?_
    refine WL.gskips 1 10 true 92 rfl rfl rfl rfl ?_
    refine WL.pickF rfl rfl rfl rfl rfl rfl ?_
    refine WL.run 1 tt_ok sg0 rfl rfl trivial ?_
    refine WL.nil ?_
    refine QT.n ?_
    refine WC.ret ?_
    cases H
    exact Ends.auto rfl rfl rfl trivial
theorem law01_OctetBack_f : hasFunc Try.prog 7 Try.f7 := ⟨Try.func7, rfl, by kernel_rfl⟩

end Go.Proofs.Ytfbdapchaofeoaa.W
