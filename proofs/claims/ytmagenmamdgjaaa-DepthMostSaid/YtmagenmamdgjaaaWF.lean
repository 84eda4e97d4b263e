/- Each Go function comes to what its plain function gives, where that gives something. -/
import Derived.Test.YtmagenmamdgjaaaPF
import Derived.Test.YtmagenmamdgjaaaProg
namespace Go.Proofs.Ytmagenmamdgjaaa.W
open Go Go.RowKit LJ
set_option linter.unusedVariables false
set_option linter.unusedSimpArgs false
set_option maxRecDepth 10000
/-- The types that the walks meet. -/
def tt : List (Nat × TK) := [(3, .int .i64), (4, .bool), (22, .slice 56 3), (23, .slice 47 1), (24, .slice 37 3), (26, .struct 3 [(0, 1, true), (1, 1, true), (2, 1, true)] [.nils, .nils, .nils]), (27, .slice 4 1), (30, .slice 3 1), (31, .int .i64), (35, .slice 40 3), (37, .struct 3 [(0, 1, true), (1, 1, true), (2, 1, true)] [.int .i64 0, .int .i64 0, .nils]), (40, .struct 3 [(0, 1, true), (1, 1, true), (2, 1, true)] [.int .i64 0, .int .i64 0, .int .i64 0]), (47, .slice 61 1), (49, .ptr), (51, .struct 8 [(0, 3, false), (3, 1, true), (4, 1, true), (5, 1, true), (6, 1, true), (7, 1, true)] [.nils, .nils, .nils, .nils, .nils, .nils, .int .i64 0, .int .i64 0]), (56, .struct 3 [(0, 1, true), (1, 1, true), (2, 1, true)] [.int .i64 0, .int .i64 0, .int .i64 0])]
theorem tt_ok : ttOK Try.prog tt = true := by kernel_rfl
/-- Elements of the slices that are appended to: cells, bytes. -/
def et : List (Nat × Nat × Nat) := [(3, 1, 8), (4, 1, 1), (37, 3, 40), (40, 3, 24), (47, 1, 24), (56, 3, 24)]
theorem et_ok : etOK Try.prog et = true := by kernel_rfl
def sg0 : List (PSig Try.prog) := []
def eg0 : List (ESig Try.prog) := []
/-! ### (*logjam/depth.walk).wrong -/
theorem depth_walk_wrong_0 (a0 : T_depth_walk) (a1 : Int) (a2 : Int) {r : T_depth_walk} (H : depth_walk_wrong a0 a1 a2 = some r) : LJ.Spec Try.prog 23 [.ptr 0 0, .d (.int .i64 a1), .d (.int .i64 a2)] [(0, .box 51 [.d (slT enc_api_Decl a0.p.Decls), .d (slT enc_sl_sl_api_Need a0.p.Waits), .d (slT enc_api_Func a0.p.Funcs), .d (slT enc_api_Ins a0.code), .own 1, .own 2, .d (.int .i64 a0.at_), .d (.int .i64 a0.err)]), (1, .row 3 1 (a0.depth.map enc_i64)), (2, .row 4 1 (a0.next.map enc_bool))] (.tup []) [(1, .row 3 1 (r.depth.map enc_i64)), (2, .row 4 1 (r.next.map enc_bool)), (0, .box 51 [.d (slT enc_api_Decl r.p.Decls), .d (slT enc_sl_sl_api_Need r.p.Waits), .d (slT enc_api_Func r.p.Funcs), .d (slT enc_api_Ins r.code), .own 1, .own 2, .d (.int .i64 r.at_), .d (.int .i64 r.err)])] := by
  refine LJ.Spec.code Try.func23 rfl 27 rfl rfl [0] rfl fun w0 F0 S0 B0 => ?_
  unfold depth_walk_wrong at H
  refine WC.seq ?_
  refine WC.region ?_
  refine WL.run 6 tt_ok sg0 rfl rfl trivial ?_
  refine WL.sect 6 5 false tt_ok sg0 rfl rfl (fun _ => trivial) ?_
  refine WL.run 1 tt_ok sg0 rfl rfl ⟨by first | exact id | exact fun h => by rw [h]; rfl | simp_all, trivial⟩ ?_
  refine WL.nil ?_
  refine QT.n ?_
  refine WC.cond rfl (fun h1 => ?_) (fun h1 => ?_)
  · replace H := of_t H h1
    refine WC.region ?_
    refine WL.run 6 tt_ok sg0 rfl rfl trivial ?_
    refine WL.eff 0 tt_ok et_ok eg0 rfl rfl rfl trivial ?_
    refine WL.run 2 tt_ok sg0 rfl rfl trivial ?_
    refine WL.eff 0 tt_ok et_ok eg0 rfl rfl rfl trivial ?_
    refine WL.nil ?_
    cases H
    exact Ends.auton rfl rfl rfl ⟨rfl, rfl, rfl, trivial⟩
  replace H := of_f H h1
  refine WC.skip ?_
  cases H
  exact Ends.auton rfl rfl rfl ⟨rfl, rfl, rfl, trivial⟩
theorem depth_walk_wrong_s (n0 n1 n2 : Nat) (hn : nodupB [n0, n1, n2] = true) (a0 : T_depth_walk) (a1 : Int) (a2 : Int) {r : T_depth_walk} (H : depth_walk_wrong a0 a1 a2 = some r) : LJ.Spec Try.prog 23 [.ptr n0 0, .d (.int .i64 a1), .d (.int .i64 a2)] [(n0, .box 51 [.d (slT enc_api_Decl a0.p.Decls), .d (slT enc_sl_sl_api_Need a0.p.Waits), .d (slT enc_api_Func a0.p.Funcs), .d (slT enc_api_Ins a0.code), .own n1, .own n2, .d (.int .i64 a0.at_), .d (.int .i64 a0.err)]), (n1, .row 3 1 (a0.depth.map enc_i64)), (n2, .row 4 1 (a0.next.map enc_bool))] (.tup []) [(n1, .row 3 1 (r.depth.map enc_i64)), (n2, .row 4 1 (r.next.map enc_bool)), (n0, .box 51 [.d (slT enc_api_Decl r.p.Decls), .d (slT enc_sl_sl_api_Need r.p.Waits), .d (slT enc_api_Func r.p.Funcs), .d (slT enc_api_Ins r.code), .own n1, .own n2, .d (.int .i64 r.at_), .d (.int .i64 r.err)])] :=
  Spec.names [n0, n1, n2] hn rfl rfl (depth_walk_wrong_0 a0 a1 a2 H)
theorem depth_walk_wrong_f : hasFunc Try.prog 23 Try.f23 := ⟨Try.func23, rfl, by kernel_rfl⟩

/-! ### (*logjam/depth.walk).leads -/
theorem depth_walk_leads_0 (a0 : T_depth_walk) (a1 : Int) (a2 : Int) (a3 : Int) {r : Bool × T_depth_walk} (H : depth_walk_leads a0 a1 a2 a3 = some r) : LJ.Spec Try.prog 14 [.ptr 0 0, .d (.int .i64 a1), .d (.int .i64 a2), .d (.int .i64 a3)] [(0, .box 51 [.d (slT enc_api_Decl a0.p.Decls), .d (slT enc_sl_sl_api_Need a0.p.Waits), .d (slT enc_api_Func a0.p.Funcs), .d (slT enc_api_Ins a0.code), .own 1, .own 2, .d (.int .i64 a0.at_), .d (.int .i64 a0.err)]), (1, .row 3 1 (a0.depth.map enc_i64)), (2, .row 4 1 (a0.next.map enc_bool))] (.d (.bool r.1)) [(1, .row 3 1 (r.2.depth.map enc_i64)), (2, .row 4 1 (r.2.next.map enc_bool)), (0, .box 51 [.d (slT enc_api_Decl r.2.p.Decls), .d (slT enc_sl_sl_api_Need r.2.p.Waits), .d (slT enc_api_Func r.2.p.Funcs), .d (slT enc_api_Ins r.2.code), .own 1, .own 2, .d (.int .i64 r.2.at_), .d (.int .i64 r.2.err)])] := by
  refine LJ.Spec.code Try.func14 rfl 55 rfl rfl [0] rfl fun w0 F0 S0 B0 => ?_
  unfold depth_walk_leads at H
  refine WC.seq ?_
  refine WC.region ?_
  refine WL.run 1 tt_ok sg0 rfl rfl trivial ?_
  refine WL.nil ?_
  refine QT.n ?_
  refine WC.seq ?_
  refine WC.block ?_
  refine WC.seq ?_
  refine WC.region ?_
  refine WL.run 8 tt_ok sg0 rfl rfl trivial ?_
  refine WL.nil ?_
  refine QT.n ?_
  refine WC.cond rfl (fun h1 => ?_) (fun h1 => ?_)
  · replace H := of_t H h1
    refine WC.seq ?_
    refine WC.region ?_
    refine WL.run 2 tt_ok sg0 rfl rfl trivial ?_
    obtain ⟨x2, hx2, H⟩ := of_bind H
    refine WL.call [1, 2] (depth_walk_wrong_s 0 1 2 rfl _ _ _ hx2) depth_walk_wrong_f rfl rfl ⟨rfl, rfl, rfl, trivial⟩ rfl rfl rfl ?_
    refine WL.nil ?_
    refine QT.n ?_
    refine WC.seq ?_
    refine WC.region ?_
    refine WL.run 1 tt_ok sg0 rfl rfl trivial ?_
    refine WL.nil ?_
    refine QT.n ?_
    refine WC.ret ?_
    refine QB.r (QT.r ?_)
    cases H
    exact Ends.auto rfl rfl rfl ⟨rfl, rfl, rfl, trivial⟩
  replace H := of_f H h1
  refine WC.seq ?_
  refine WC.region ?_
  refine WL.run 5 tt_ok sg0 rfl rfl trivial ?_
  obtain ⟨g3, H⟩ := of_need H
  refine WL.yv (LJ.Y.idxRel enc_i64 a0.depth a2 tt_ok rfl rfl rfl rfl rfl (nIn_ok g3)) rfl rfl rfl ?_
  refine WL.yv (LJ.Y.loadRel enc_i64 a0.depth a2 0 rfl rfl (fun _ => rfl) rfl (by kernel_rfl) rfl (by first | exact nIn_ok g3 | (have := nIn_ok g3; simpa only [List.length_set, List.length_map] using this))) rfl rfl rfl ?_
  refine WL.run 2 tt_ok sg0 rfl rfl trivial ?_
  refine WL.nil ?_
  refine QT.n ?_
  refine WC.cond rfl (fun h4 => ?_) (fun h4 => ?_)
  · replace H := of_t H h4
    refine WC.seq ?_
    refine WC.region ?_
    refine WL.run 6 tt_ok sg0 rfl rfl trivial ?_
    obtain ⟨g5, H⟩ := of_need H
    refine WL.yv (LJ.Y.idxRel enc_i64 a0.depth a2 tt_ok rfl rfl rfl rfl rfl (nIn_ok g5)) rfl rfl rfl ?_
    refine WL.storeRel enc_i64 a0.depth a2 0 a3 (.int .i64 a3) rfl rfl rfl rfl (fun _ => rfl) rfl (by kernel_rfl) rfl rfl (by first | exact nIn_ok g5 | (have := nIn_ok g5; simpa only [List.length_set, List.length_map] using this)) rfl rfl rfl rfl ?_
    refine WL.nil ?_
    refine QT.n ?_
    refine WC.region ?_
    refine WL.run 5 tt_ok sg0 rfl rfl trivial ?_
    obtain ⟨g6, H⟩ := of_need H
    refine WL.yv (LJ.Y.idxRel enc_bool a0.next a2 tt_ok rfl rfl rfl rfl rfl (nIn_ok g6)) rfl rfl rfl ?_
    refine WL.storeRel enc_bool a0.next a2 0 true (.bool true) rfl rfl rfl rfl (fun _ => rfl) rfl (by kernel_rfl) rfl rfl (by first | exact nIn_ok g6 | (have := nIn_ok g6; simpa only [List.length_set, List.length_map] using this)) rfl rfl rfl rfl ?_
    refine WL.nil ?_
    refine QB.n (QT.n ?_)
    refine WC.seq ?_
    refine WC.region ?_
    refine WL.run 1 tt_ok sg0 rfl rfl trivial ?_
    refine WL.nil ?_
    refine QT.n ?_
    refine WC.ret ?_
    cases H
    exact Ends.auto rfl rfl rfl ⟨rfl, rfl, rfl, trivial⟩
  replace H := of_f H h4
  refine WC.seq ?_
  refine WC.region ?_
  refine WL.run 5 tt_ok sg0 rfl rfl trivial ?_
  obtain ⟨g7, H⟩ := of_need H
  refine WL.yv (LJ.Y.idxRel enc_i64 a0.depth a2 tt_ok rfl rfl rfl rfl rfl (nIn_ok g7)) rfl rfl rfl ?_
  refine WL.yv (LJ.Y.loadRel enc_i64 a0.depth a2 0 rfl rfl (fun _ => rfl) rfl (by kernel_rfl) rfl (by first | exact nIn_ok g7 | (have := nIn_ok g7; simpa only [List.length_set, List.length_map] using this))) rfl rfl rfl ?_
  refine WL.run 3 tt_ok sg0 rfl rfl trivial ?_
  refine WL.nil ?_
  refine QT.n ?_
  refine WC.cond rfl (fun h8 => ?_) (fun h8 => ?_)
  · replace H := of_t H h8
    refine WC.seq ?_
    refine WC.region ?_
    refine WL.run 2 tt_ok sg0 rfl rfl trivial ?_
    obtain ⟨x9, hx9, H⟩ := of_bind H
    refine WL.call [1, 2] (depth_walk_wrong_s 0 1 2 rfl _ _ _ hx9) depth_walk_wrong_f rfl rfl ⟨rfl, rfl, rfl, trivial⟩ rfl rfl rfl ?_
    refine WL.nil ?_
    refine QT.n ?_
    refine WC.seq ?_
    refine WC.region ?_
    refine WL.run 1 tt_ok sg0 rfl rfl trivial ?_
    refine WL.nil ?_
    refine QT.n ?_
    refine WC.ret ?_
    refine QB.r (QT.r ?_)
    cases H
    exact Ends.auto rfl rfl rfl ⟨rfl, rfl, rfl, trivial⟩
  replace H := of_f H h8
  refine WC.skip ?_
  refine QB.n (QT.n ?_)
  refine WC.seq ?_
  refine WC.region ?_
  refine WL.run 1 tt_ok sg0 rfl rfl trivial ?_
  refine WL.nil ?_
  refine QT.n ?_
  refine WC.ret ?_
  cases H
  exact Ends.auto rfl rfl rfl ⟨rfl, rfl, rfl, trivial⟩
theorem depth_walk_leads_s (n0 n1 n2 : Nat) (hn : nodupB [n0, n1, n2] = true) (a0 : T_depth_walk) (a1 : Int) (a2 : Int) (a3 : Int) {r : Bool × T_depth_walk} (H : depth_walk_leads a0 a1 a2 a3 = some r) : LJ.Spec Try.prog 14 [.ptr n0 0, .d (.int .i64 a1), .d (.int .i64 a2), .d (.int .i64 a3)] [(n0, .box 51 [.d (slT enc_api_Decl a0.p.Decls), .d (slT enc_sl_sl_api_Need a0.p.Waits), .d (slT enc_api_Func a0.p.Funcs), .d (slT enc_api_Ins a0.code), .own n1, .own n2, .d (.int .i64 a0.at_), .d (.int .i64 a0.err)]), (n1, .row 3 1 (a0.depth.map enc_i64)), (n2, .row 4 1 (a0.next.map enc_bool))] (.d (.bool r.1)) [(n1, .row 3 1 (r.2.depth.map enc_i64)), (n2, .row 4 1 (r.2.next.map enc_bool)), (n0, .box 51 [.d (slT enc_api_Decl r.2.p.Decls), .d (slT enc_sl_sl_api_Need r.2.p.Waits), .d (slT enc_api_Func r.2.p.Funcs), .d (slT enc_api_Ins r.2.code), .own n1, .own n2, .d (.int .i64 r.2.at_), .d (.int .i64 r.2.err)])] :=
  Spec.names [n0, n1, n2] hn rfl rfl (depth_walk_leads_0 a0 a1 a2 a3 H)
theorem depth_walk_leads_f : hasFunc Try.prog 14 Try.f14 := ⟨Try.func14, rfl, by kernel_rfl⟩

/-! ### slices.Index[[]bool,bool] -/
theorem slices_Index___bool_bool__0 (a0 : List Bool) (a1 : Bool) {r : Int} (H : slices_Index___bool_bool_ a0 a1 = some r) : LJ.Spec Try.prog 24 [.d (slT enc_bool a0), .d (.bool a1)] [] (.d (.int .i64 r)) [] := by
  refine LJ.Spec.code Try.func24 rfl 19 rfl rfl [] rfl fun w0 F0 S0 B0 => ?_
  unfold slices_Index___bool_bool_ at H
  refine WC.seq ?_
  refine WC.region ?_
  refine WL.run 1 tt_ok sg0 rfl rfl trivial ?_
  refine WL.nil ?_
  refine QT.n ?_
  refine WC.seq ?_
  refine WC.seq ?_
  refine WC.region ?_
  refine WL.run 3 tt_ok sg0 rfl rfl trivial ?_
  refine WL.nil ?_
  refine QT.n ?_
  refine WC.block ?_
  refine WC.loop (ι := {x : Nat × Int // slices_Index___bool_bool__l2 a0 a1 x.1 x.2 = some r}) (fun x => [(0, .d (slT enc_bool a0)), (1, .d (.bool a1)), (7, .d (.int .i64 (a0.length : Int))), (8, .d (.int .i64 x.1.2))]) (fun x => []) (fun x => x.1.1) ⟨(fuel, 0), H⟩ (Less.mk' ⟨rfl, rfl, rfl, rfl, trivial⟩ trivial) fun x => ?_
  obtain ⟨⟨k2, s1⟩, H⟩ := x
  rcases k2 with _ | k2
  · exact of_none H
  rw [slices_Index___bool_bool__l2] at H
  refine WC.seq ?_
  refine WC.region ?_
  refine WL.run 1 tt_ok sg0 rfl rfl trivial ?_
  refine WL.nil ?_
  refine QT.n ?_
  refine WC.seq ?_
  refine WC.cond rfl (fun h3 => ?_) (fun h3 => ?_)
  · replace H := of_t H h3
    refine WC.skip ?_
    refine QT.n ?_
    refine WC.seq ?_
    refine WC.block ?_
    refine WC.seq ?_
    refine WC.region ?_
    refine WL.run 2 tt_ok sg0 rfl rfl trivial ?_
    refine WL.nil ?_
    refine QT.n ?_
    refine WC.seq ?_
    refine WC.region ?_
    obtain ⟨g4, H⟩ := of_need H
    refine WL.run 6 tt_ok sg0 rfl rfl ⟨⟨(nIn_ok g4).1, (nIn_ok g4).2, rfl⟩, trivial⟩ ?_
    refine WL.nil ?_
    refine QT.n ?_
    refine WC.cond rfl (fun h5 => ?_) (fun h5 => ?_)
    · replace H := of_t H h5
      refine WC.seq ?_
      refine WC.region ?_
      refine WL.run 2 tt_ok sg0 rfl rfl trivial ?_
      refine WL.nil ?_
      refine QT.n ?_
      refine WC.ret ?_
      refine QB.r (QT.r (QT.r (QB.r (QT.r ?_))))
      cases H
      exact Ends.auto rfl rfl rfl trivial
    replace H := of_f H h5
    refine WC.skip ?_
    refine QB.n (QT.n ?_)
    refine WC.region ?_
    refine WL.run 2 tt_ok sg0 rfl rfl trivial ?_
    refine WL.nil ?_
    refine QT.n ?_
    exact ⟨⟨(k2, IntKind.i64.wrap (s1 + 1)), H⟩, Nat.lt_succ_self _, Less.mk' ⟨rfl, rfl, rfl, rfl, trivial⟩ trivial⟩
  replace H := of_f H h3
  refine WC.exit ?_
  refine QT.x (QT.x (QB.hit (QT.n ?_)))
  refine WC.seq ?_
  refine WC.region ?_
  refine WL.run 1 tt_ok sg0 rfl rfl trivial ?_
  refine WL.nil ?_
  refine QT.n ?_
  refine WC.ret ?_
  cases H
  exact Ends.auto rfl rfl rfl trivial
theorem slices_Index___bool_bool__f : hasFunc Try.prog 24 Try.f24 := ⟨Try.func24, rfl, by kernel_rfl⟩

/-! ### (*logjam/depth.walk).least -/
theorem depth_walk_least_0 (a0 : T_depth_walk) {r : Int} (H : depth_walk_least a0 = some r) : LJ.Spec Try.prog 15 [.ptr 0 0] [(0, .box 51 [.d (slT enc_api_Decl a0.p.Decls), .d (slT enc_sl_sl_api_Need a0.p.Waits), .d (slT enc_api_Func a0.p.Funcs), .d (slT enc_api_Ins a0.code), .own 1, .own 2, .d (.int .i64 a0.at_), .d (.int .i64 a0.err)]), (1, .row 3 1 (a0.depth.map enc_i64)), (2, .row 4 1 (a0.next.map enc_bool))] (.d (.int .i64 r)) [(1, .row 3 1 (a0.depth.map enc_i64)), (2, .row 4 1 (a0.next.map enc_bool)), (0, .box 51 [.d (slT enc_api_Decl a0.p.Decls), .d (slT enc_sl_sl_api_Need a0.p.Waits), .d (slT enc_api_Func a0.p.Funcs), .d (slT enc_api_Ins a0.code), .own 1, .own 2, .d (.int .i64 a0.at_), .d (.int .i64 a0.err)])] := by
  refine LJ.Spec.code Try.func15 rfl 8 rfl rfl [0] rfl fun w0 F0 S0 B0 => ?_
  unfold depth_walk_least at H
  refine WC.seq ?_
  refine WC.region ?_
  refine WL.run 1 tt_ok sg0 rfl rfl trivial ?_
  refine WL.nil ?_
  refine QT.n ?_
  refine WC.seq ?_
  refine WC.region ?_
  refine WL.run 4 tt_ok sg0 rfl rfl trivial ?_
  obtain ⟨x1, hx1, H⟩ := of_bind H
  refine WL.callB (slices_Index___bool_bool__0 _ _ hx1) slices_Index___bool_bool__f rfl (.own enc_bool a0.next rfl rfl (.op rfl .nil)) rfl rfl rfl rfl ?_
  refine WL.run 1 tt_ok sg0 rfl rfl trivial ?_
  refine WL.nil ?_
  refine QT.n ?_
  refine WC.ret ?_
  cases H
  exact Ends.auto rfl rfl rfl ⟨rfl, rfl, rfl, trivial⟩
theorem depth_walk_least_s (n0 n1 n2 : Nat) (hn : nodupB [n0, n1, n2] = true) (a0 : T_depth_walk) {r : Int} (H : depth_walk_least a0 = some r) : LJ.Spec Try.prog 15 [.ptr n0 0] [(n0, .box 51 [.d (slT enc_api_Decl a0.p.Decls), .d (slT enc_sl_sl_api_Need a0.p.Waits), .d (slT enc_api_Func a0.p.Funcs), .d (slT enc_api_Ins a0.code), .own n1, .own n2, .d (.int .i64 a0.at_), .d (.int .i64 a0.err)]), (n1, .row 3 1 (a0.depth.map enc_i64)), (n2, .row 4 1 (a0.next.map enc_bool))] (.d (.int .i64 r)) [(n1, .row 3 1 (a0.depth.map enc_i64)), (n2, .row 4 1 (a0.next.map enc_bool)), (n0, .box 51 [.d (slT enc_api_Decl a0.p.Decls), .d (slT enc_sl_sl_api_Need a0.p.Waits), .d (slT enc_api_Func a0.p.Funcs), .d (slT enc_api_Ins a0.code), .own n1, .own n2, .d (.int .i64 a0.at_), .d (.int .i64 a0.err)])] :=
  Spec.names [n0, n1, n2] hn rfl rfl (depth_walk_least_0 a0 H)
theorem depth_walk_least_f : hasFunc Try.prog 15 Try.f15 := ⟨Try.func15, rfl, by kernel_rfl⟩

/-! ### logjam/op.known -/
theorem op_known_0 (a0 : Int) {r : Bool} (H : op_known a0 = some r) : LJ.Spec Try.prog 37 [.d (.int .i64 a0)] [] (.d (.bool r)) [] := by
  refine LJ.Spec.code Try.func37 rfl 9 rfl rfl [] rfl fun w0 F0 S0 B0 => ?_
  unfold op_known at H
  refine WC.seq ?_
  refine WC.region ?_
  refine WL.run 1 tt_ok sg0 rfl rfl trivial ?_
  refine WL.nil ?_
  refine QT.n ?_
  refine WC.seq ?_
  refine WC.region ?_
  refine WL.run 3 tt_ok sg0 rfl rfl trivial ?_
  refine WL.sect 2 2 true tt_ok sg0 rfl rfl (fun _ => trivial) ?_
  refine WL.run 2 tt_ok sg0 rfl rfl ⟨by first | exact id | exact fun h => by rw [h]; rfl | simp_all, trivial⟩ ?_
  refine WL.nil ?_
  refine QT.n ?_
  refine WC.ret ?_
  cases H
  exact Ends.auto rfl rfl rfl trivial
theorem op_known_f : hasFunc Try.prog 37 Try.f37 := ⟨Try.func37, rfl, by kernel_rfl⟩

/-! ### logjam/op.shape -/
theorem op_shape_0 (a0 : Int) {r : Int} (H : op_shape a0 = some r) : LJ.Spec Try.prog 36 [.d (.int .i64 a0)] [] (.d (.int .i64 r)) [] := by
  refine LJ.Spec.code Try.func36 rfl 39 rfl rfl [] rfl fun w0 F0 S0 B0 => ?_
  unfold op_shape at H
  refine WC.seq ?_
  refine WC.region ?_
  refine WL.run 1 tt_ok sg0 rfl rfl trivial ?_
  refine WL.nil ?_
  refine QT.n ?_
  refine WC.seq ?_
  refine WC.seq ?_
  refine WC.region ?_
  refine WL.run 1 tt_ok sg0 rfl rfl trivial ?_
  refine WL.nil ?_
  refine QT.n ?_
  refine WC.block ?_
  refine WC.seq ?_
  refine WC.seq ?_
  refine WC.region ?_
  refine WL.run 2 tt_ok sg0 rfl rfl trivial ?_
  refine WL.nil ?_
  refine QT.n ?_
  refine WC.cond rfl (fun h1 => ?_) (fun h1 => ?_)
  · replace H := of_t H h1
    refine WC.known (g := 4) true rfl h1 ?_
    refine WC.skip ?_
    refine QT.n ?_
    refine WC.cond rfl (fun h => ?_) (fun h => absurd h (by decide))
    refine WC.seq ?_
    refine WC.region ?_
    refine WL.run 1 tt_ok sg0 rfl rfl trivial ?_
    refine WL.nil ?_
    refine QT.n ?_
    refine WC.ret ?_
    refine QB.r (QT.r ?_)
    cases H
    exact Ends.auto rfl rfl rfl trivial
  replace H := of_f H h1
  refine WC.seq ?_
  refine WC.region ?_
  refine WL.run 2 tt_ok sg0 rfl rfl trivial ?_
  refine WL.nil ?_
  refine QT.n ?_
  refine WC.cond rfl (fun h2 => ?_) (fun h2 => ?_)
  · replace H := of_t H h2
    refine WC.known (g := 4) true rfl h2 ?_
    refine WC.skip ?_
    refine QT.n ?_
    refine WC.cond rfl (fun h => ?_) (fun h => absurd h (by decide))
    refine WC.seq ?_
    refine WC.region ?_
    refine WL.run 1 tt_ok sg0 rfl rfl trivial ?_
    refine WL.nil ?_
    refine QT.n ?_
    refine WC.ret ?_
    refine QB.r (QT.r ?_)
    cases H
    exact Ends.auto rfl rfl rfl trivial
  replace H := of_f H h2
  refine WC.seq ?_
  refine WC.region ?_
  refine WL.run 2 tt_ok sg0 rfl rfl trivial ?_
  refine WL.nil ?_
  refine QT.n ?_
  refine WC.cond rfl (fun h3 => ?_) (fun h3 => ?_)
  · replace H := of_t H h3
    refine WC.known (g := 4) true rfl h3 ?_
    refine WC.skip ?_
    refine QT.n ?_
    refine WC.cond rfl (fun h => ?_) (fun h => absurd h (by decide))
    refine WC.seq ?_
    refine WC.region ?_
    refine WL.run 1 tt_ok sg0 rfl rfl trivial ?_
    refine WL.nil ?_
    refine QT.n ?_
    refine WC.ret ?_
    refine QB.r (QT.r ?_)
    cases H
    exact Ends.auto rfl rfl rfl trivial
  replace H := of_f H h3
  refine WC.region ?_
  refine WL.run 2 tt_ok sg0 rfl rfl trivial ?_
  refine WL.nil ?_
  refine QT.n ?_
  refine WC.cond rfl (fun h4 => ?_) (fun h4 => ?_)
  · replace H := of_t H h4
    refine WC.seq ?_
    refine WC.region ?_
    refine WL.run 1 tt_ok sg0 rfl rfl trivial ?_
    refine WL.nil ?_
    refine QT.n ?_
    refine WC.ret ?_
    refine QB.r (QT.r ?_)
    cases H
    exact Ends.auto rfl rfl rfl trivial
  replace H := of_f H h4
  refine WC.seq ?_
  refine WC.seq ?_
  refine WC.region ?_
  refine WL.run 2 tt_ok sg0 rfl rfl trivial ?_
  refine WL.nil ?_
  refine QT.n ?_
  refine WC.cond rfl (fun h5 => ?_) (fun h5 => ?_)
  · replace H := of_t H h5
    refine WC.known (g := 9) true rfl h5 ?_
    refine WC.skip ?_
    refine QT.n ?_
    refine WC.cond rfl (fun h => ?_) (fun h => absurd h (by decide))
    refine WC.seq ?_
    refine WC.region ?_
    refine WL.run 1 tt_ok sg0 rfl rfl trivial ?_
    refine WL.nil ?_
    refine QT.n ?_
    refine WC.ret ?_
    refine QB.r (QT.r ?_)
    cases H
    exact Ends.auto rfl rfl rfl trivial
  replace H := of_f H h5
  refine WC.region ?_
  refine WL.run 2 tt_ok sg0 rfl rfl trivial ?_
  refine WL.nil ?_
  refine QT.n ?_
  refine WC.cond rfl (fun h6 => ?_) (fun h6 => ?_)
  · replace H := of_t H h6
    refine WC.seq ?_
    refine WC.region ?_
    refine WL.run 1 tt_ok sg0 rfl rfl trivial ?_
    refine WL.nil ?_
    refine QT.n ?_
    refine WC.ret ?_
    refine QB.r (QT.r ?_)
    cases H
    exact Ends.auto rfl rfl rfl trivial
  replace H := of_f H h6
  refine WC.seq ?_
  refine WC.region ?_
  refine WL.run 2 tt_ok sg0 rfl rfl trivial ?_
  refine WL.nil ?_
  refine QT.n ?_
  refine WC.cond rfl (fun h7 => ?_) (fun h7 => ?_)
  · replace H := of_t H h7
    refine WC.seq ?_
    refine WC.region ?_
    refine WL.run 1 tt_ok sg0 rfl rfl trivial ?_
    refine WL.nil ?_
    refine QT.n ?_
    refine WC.ret ?_
    refine QB.r (QT.r ?_)
    cases H
    exact Ends.auto rfl rfl rfl trivial
  replace H := of_f H h7
  refine WC.seq ?_
  refine WC.region ?_
  refine WL.run 2 tt_ok sg0 rfl rfl trivial ?_
  refine WL.nil ?_
  refine QT.n ?_
  refine WC.cond rfl (fun h8 => ?_) (fun h8 => ?_)
  · replace H := of_t H h8
    refine WC.seq ?_
    refine WC.region ?_
    refine WL.run 1 tt_ok sg0 rfl rfl trivial ?_
    refine WL.nil ?_
    refine QT.n ?_
    refine WC.ret ?_
    refine QB.r (QT.r ?_)
    cases H
    exact Ends.auto rfl rfl rfl trivial
  replace H := of_f H h8
  refine WC.seq ?_
  refine WC.seq ?_
  refine WC.region ?_
  refine WL.run 2 tt_ok sg0 rfl rfl trivial ?_
  refine WL.nil ?_
  refine QT.n ?_
  refine WC.cond rfl (fun h9 => ?_) (fun h9 => ?_)
  · replace H := of_t H h9
    refine WC.known (g := 16) true rfl h9 ?_
    refine WC.skip ?_
    refine QT.n ?_
    refine WC.cond rfl (fun h => ?_) (fun h => absurd h (by decide))
    refine WC.seq ?_
    refine WC.region ?_
    refine WL.run 1 tt_ok sg0 rfl rfl trivial ?_
    refine WL.nil ?_
    refine QT.n ?_
    refine WC.ret ?_
    refine QB.r (QT.r ?_)
    cases H
    exact Ends.auto rfl rfl rfl trivial
  replace H := of_f H h9
  refine WC.region ?_
  refine WL.run 2 tt_ok sg0 rfl rfl trivial ?_
  refine WL.nil ?_
  refine QT.n ?_
  refine WC.cond rfl (fun h10 => ?_) (fun h10 => ?_)
  · replace H := of_t H h10
    refine WC.seq ?_
    refine WC.region ?_
    refine WL.run 1 tt_ok sg0 rfl rfl trivial ?_
    refine WL.nil ?_
    refine QT.n ?_
    refine WC.ret ?_
    refine QB.r (QT.r ?_)
    cases H
    exact Ends.auto rfl rfl rfl trivial
  replace H := of_f H h10
  refine WC.seq ?_
  refine WC.seq ?_
  refine WC.region ?_
  refine WL.run 2 tt_ok sg0 rfl rfl trivial ?_
  refine WL.nil ?_
  refine QT.n ?_
  refine WC.cond rfl (fun h11 => ?_) (fun h11 => ?_)
  · replace H := of_t H h11
    refine WC.known (g := 19) true rfl h11 ?_
    refine WC.skip ?_
    refine QT.n ?_
    refine WC.cond rfl (fun h => ?_) (fun h => absurd h (by decide))
    refine WC.seq ?_
    refine WC.region ?_
    refine WL.run 1 tt_ok sg0 rfl rfl trivial ?_
    refine WL.nil ?_
    refine QT.n ?_
    refine WC.ret ?_
    refine QB.r (QT.r ?_)
    cases H
    exact Ends.auto rfl rfl rfl trivial
  replace H := of_f H h11
  refine WC.seq ?_
  refine WC.region ?_
  refine WL.run 2 tt_ok sg0 rfl rfl trivial ?_
  refine WL.nil ?_
  refine QT.n ?_
  refine WC.cond rfl (fun h12 => ?_) (fun h12 => ?_)
  · replace H := of_t H h12
    refine WC.known (g := 19) true rfl h12 ?_
    refine WC.skip ?_
    refine QT.n ?_
    refine WC.cond rfl (fun h => ?_) (fun h => absurd h (by decide))
    refine WC.seq ?_
    refine WC.region ?_
    refine WL.run 1 tt_ok sg0 rfl rfl trivial ?_
    refine WL.nil ?_
    refine QT.n ?_
    refine WC.ret ?_
    refine QB.r (QT.r ?_)
    cases H
    exact Ends.auto rfl rfl rfl trivial
  replace H := of_f H h12
  refine WC.seq ?_
  refine WC.region ?_
  refine WL.run 2 tt_ok sg0 rfl rfl trivial ?_
  refine WL.nil ?_
  refine QT.n ?_
  refine WC.cond rfl (fun h13 => ?_) (fun h13 => ?_)
  · replace H := of_t H h13
    refine WC.known (g := 19) true rfl h13 ?_
    refine WC.skip ?_
    refine QT.n ?_
    refine WC.cond rfl (fun h => ?_) (fun h => absurd h (by decide))
    refine WC.seq ?_
    refine WC.region ?_
    refine WL.run 1 tt_ok sg0 rfl rfl trivial ?_
    refine WL.nil ?_
    refine QT.n ?_
    refine WC.ret ?_
    refine QB.r (QT.r ?_)
    cases H
    exact Ends.auto rfl rfl rfl trivial
  replace H := of_f H h13
  refine WC.seq ?_
  refine WC.region ?_
  refine WL.run 2 tt_ok sg0 rfl rfl trivial ?_
  refine WL.nil ?_
  refine QT.n ?_
  refine WC.cond rfl (fun h14 => ?_) (fun h14 => ?_)
  · replace H := of_t H h14
    refine WC.known (g := 19) true rfl h14 ?_
    refine WC.skip ?_
    refine QT.n ?_
    refine WC.cond rfl (fun h => ?_) (fun h => absurd h (by decide))
    refine WC.seq ?_
    refine WC.region ?_
    refine WL.run 1 tt_ok sg0 rfl rfl trivial ?_
    refine WL.nil ?_
    refine QT.n ?_
    refine WC.ret ?_
    refine QB.r (QT.r ?_)
    cases H
    exact Ends.auto rfl rfl rfl trivial
  replace H := of_f H h14
  refine WC.seq ?_
  refine WC.region ?_
  refine WL.run 2 tt_ok sg0 rfl rfl trivial ?_
  refine WL.nil ?_
  refine QT.n ?_
  refine WC.cond rfl (fun h15 => ?_) (fun h15 => ?_)
  · replace H := of_t H h15
    refine WC.known (g := 19) true rfl h15 ?_
    refine WC.skip ?_
    refine QT.n ?_
    refine WC.cond rfl (fun h => ?_) (fun h => absurd h (by decide))
    refine WC.seq ?_
    refine WC.region ?_
    refine WL.run 1 tt_ok sg0 rfl rfl trivial ?_
    refine WL.nil ?_
    refine QT.n ?_
    refine WC.ret ?_
    refine QB.r (QT.r ?_)
    cases H
    exact Ends.auto rfl rfl rfl trivial
  replace H := of_f H h15
  refine WC.seq ?_
  refine WC.region ?_
  refine WL.run 2 tt_ok sg0 rfl rfl trivial ?_
  refine WL.nil ?_
  refine QT.n ?_
  refine WC.cond rfl (fun h16 => ?_) (fun h16 => ?_)
  · replace H := of_t H h16
    refine WC.known (g := 19) true rfl h16 ?_
    refine WC.skip ?_
    refine QT.n ?_
    refine WC.cond rfl (fun h => ?_) (fun h => absurd h (by decide))
    refine WC.seq ?_
    refine WC.region ?_
    refine WL.run 1 tt_ok sg0 rfl rfl trivial ?_
    refine WL.nil ?_
    refine QT.n ?_
    refine WC.ret ?_
    refine QB.r (QT.r ?_)
    cases H
    exact Ends.auto rfl rfl rfl trivial
  replace H := of_f H h16
  refine WC.seq ?_
  refine WC.region ?_
  refine WL.run 2 tt_ok sg0 rfl rfl trivial ?_
  refine WL.nil ?_
  refine QT.n ?_
  refine WC.cond rfl (fun h17 => ?_) (fun h17 => ?_)
  · replace H := of_t H h17
    refine WC.known (g := 19) true rfl h17 ?_
    refine WC.skip ?_
    refine QT.n ?_
    refine WC.cond rfl (fun h => ?_) (fun h => absurd h (by decide))
    refine WC.seq ?_
    refine WC.region ?_
    refine WL.run 1 tt_ok sg0 rfl rfl trivial ?_
    refine WL.nil ?_
    refine QT.n ?_
    refine WC.ret ?_
    refine QB.r (QT.r ?_)
    cases H
    exact Ends.auto rfl rfl rfl trivial
  replace H := of_f H h17
  refine WC.seq ?_
  refine WC.region ?_
  refine WL.run 2 tt_ok sg0 rfl rfl trivial ?_
  refine WL.nil ?_
  refine QT.n ?_
  refine WC.cond rfl (fun h18 => ?_) (fun h18 => ?_)
  · replace H := of_t H h18
    refine WC.known (g := 19) true rfl h18 ?_
    refine WC.skip ?_
    refine QT.n ?_
    refine WC.cond rfl (fun h => ?_) (fun h => absurd h (by decide))
    refine WC.seq ?_
    refine WC.region ?_
    refine WL.run 1 tt_ok sg0 rfl rfl trivial ?_
    refine WL.nil ?_
    refine QT.n ?_
    refine WC.ret ?_
    refine QB.r (QT.r ?_)
    cases H
    exact Ends.auto rfl rfl rfl trivial
  replace H := of_f H h18
  refine WC.seq ?_
  refine WC.region ?_
  refine WL.run 2 tt_ok sg0 rfl rfl trivial ?_
  refine WL.nil ?_
  refine QT.n ?_
  refine WC.cond rfl (fun h19 => ?_) (fun h19 => ?_)
  · replace H := of_t H h19
    refine WC.known (g := 19) true rfl h19 ?_
    refine WC.skip ?_
    refine QT.n ?_
    refine WC.cond rfl (fun h => ?_) (fun h => absurd h (by decide))
    refine WC.seq ?_
    refine WC.region ?_
    refine WL.run 1 tt_ok sg0 rfl rfl trivial ?_
    refine WL.nil ?_
    refine QT.n ?_
    refine WC.ret ?_
    refine QB.r (QT.r ?_)
    cases H
    exact Ends.auto rfl rfl rfl trivial
  replace H := of_f H h19
  refine WC.seq ?_
  refine WC.region ?_
  refine WL.run 2 tt_ok sg0 rfl rfl trivial ?_
  refine WL.nil ?_
  refine QT.n ?_
  refine WC.cond rfl (fun h20 => ?_) (fun h20 => ?_)
  · replace H := of_t H h20
    refine WC.known (g := 19) true rfl h20 ?_
    refine WC.skip ?_
    refine QT.n ?_
    refine WC.cond rfl (fun h => ?_) (fun h => absurd h (by decide))
    refine WC.seq ?_
    refine WC.region ?_
    refine WL.run 1 tt_ok sg0 rfl rfl trivial ?_
    refine WL.nil ?_
    refine QT.n ?_
    refine WC.ret ?_
    refine QB.r (QT.r ?_)
    cases H
    exact Ends.auto rfl rfl rfl trivial
  replace H := of_f H h20
  refine WC.region ?_
  refine WL.run 2 tt_ok sg0 rfl rfl trivial ?_
  refine WL.nil ?_
  refine QT.n ?_
  refine WC.cond rfl (fun h21 => ?_) (fun h21 => ?_)
  · replace H := of_t H h21
    refine WC.seq ?_
    refine WC.region ?_
    refine WL.run 1 tt_ok sg0 rfl rfl trivial ?_
    refine WL.nil ?_
    refine QT.n ?_
    refine WC.ret ?_
    refine QB.r (QT.r ?_)
    cases H
    exact Ends.auto rfl rfl rfl trivial
  replace H := of_f H h21
  refine WC.skip ?_
  refine QB.n (QT.n ?_)
  refine WC.seq ?_
  refine WC.seq ?_
  refine WC.region ?_
  refine WL.run 3 tt_ok sg0 rfl rfl trivial ?_
  refine WL.sect 2 2 true tt_ok sg0 rfl rfl (fun _ => trivial) ?_
  refine WL.run 1 tt_ok sg0 rfl rfl ⟨by first | exact id | exact fun h => by rw [h]; rfl | simp_all, trivial⟩ ?_
  refine WL.nil ?_
  refine QT.n ?_
  refine WC.cond rfl (fun h22 => ?_) (fun h22 => ?_)
  · replace H := of_t H h22
    refine WC.seq ?_
    refine WC.region ?_
    refine WL.run 1 tt_ok sg0 rfl rfl trivial ?_
    refine WL.nil ?_
    refine QT.n ?_
    refine WC.ret ?_
    refine QT.r ?_
    cases H
    exact Ends.auto rfl rfl rfl trivial
  replace H := of_f H h22
  refine WC.skip ?_
  refine QT.n ?_
  refine WC.seq ?_
  refine WC.seq ?_
  refine WC.region ?_
  refine WL.run 1 tt_ok sg0 rfl rfl trivial ?_
  obtain ⟨x23, hx23, H⟩ := of_bind H
  refine WL.call [] (op_known_0 _ hx23) op_known_f rfl rfl trivial rfl rfl rfl ?_
  refine WL.nil ?_
  refine QT.n ?_
  refine WC.cond rfl (fun h24 => ?_) (fun h24 => ?_)
  · replace H := of_t H h24
    refine WC.seq ?_
    refine WC.region ?_
    refine WL.run 1 tt_ok sg0 rfl rfl trivial ?_
    refine WL.nil ?_
    refine QT.n ?_
    refine WC.ret ?_
    refine QT.r ?_
    cases H
    exact Ends.auto rfl rfl rfl trivial
  replace H := of_f H h24
  refine WC.skip ?_
  refine QT.n ?_
  refine WC.seq ?_
  refine WC.region ?_
  refine WL.run 1 tt_ok sg0 rfl rfl trivial ?_
  refine WL.nil ?_
  refine QT.n ?_
  refine WC.ret ?_
  cases H
  exact Ends.auto rfl rfl rfl trivial
theorem op_shape_f : hasFunc Try.prog 36 Try.f36 := ⟨Try.func36, rfl, by kernel_rfl⟩

/-! ### logjam/op.Pops -/
theorem op_Pops_0 (a0 : T_api_Ins) (a1 : Int) {r : Int} (H : op_Pops a0 a1 = some r) : LJ.Spec Try.prog 25 [.d (.agg [.int .i64 a0.Op, .int .i64 a0.A, .int .i64 a0.B]), .d (.int .i64 a1)] [] (.d (.int .i64 r)) [] := by
  refine LJ.Spec.code Try.func25 rfl 35 rfl rfl [] rfl fun w0 F0 S0 B0 => ?_
  unfold op_Pops at H
  refine WC.seq ?_
  refine WC.region ?_
  refine WL.eff 102 tt_ok et_ok eg0 rfl rfl rfl trivial ?_
  refine WL.run 1 tt_ok sg0 rfl rfl trivial ?_
  refine WL.nil ?_
  refine QT.n ?_
  refine WC.seq ?_
  refine WC.region ?_
  refine WL.run 1 tt_ok sg0 rfl rfl trivial ?_
  refine WL.nil ?_
  refine QT.n ?_
  refine WC.seq ?_
  refine WC.seq ?_
  refine WC.region ?_
  refine WL.run 2 tt_ok sg0 rfl rfl trivial ?_
  refine WL.nil ?_
  refine QT.n ?_
  refine WC.block ?_
  obtain ⟨K1, hK1, H⟩ := of_withK H
  refine WC.cut (fun E m => ∃ s2 : Int, K1 s2 = some r ∧ LessW E m [(2, .ptr 102 0), (5, .d (.int .i64 s2))] [(102, .box 40 [.d (.int .i64 a0.Op), .d (.int .i64 a0.A), .d (.int .i64 a0.B)])]) ?_ ?_
  · refine WC.block ?_
    refine WC.seq ?_
    refine WC.block ?_
    refine WC.seq ?_
    refine WC.block ?_
    refine WC.seq ?_
    refine WC.seq ?_
    refine WC.seq ?_
    refine WC.region ?_
    refine WL.run 2 tt_ok sg0 rfl rfl trivial ?_
    refine WL.nil ?_
    refine QT.n ?_
    refine WC.cond rfl (fun h3 => ?_) (fun h3 => ?_)
    · replace H := of_t H h3
      refine WC.exit ?_
      refine QT.x (QT.x (QB.hit (QT.n ?_)))
      refine WC.seq ?_
      refine WC.seq ?_
      refine WC.region ?_
      refine WL.run 2 tt_ok sg0 rfl rfl trivial ?_
      refine WL.nil ?_
      refine QT.n ?_
      refine WC.ret ?_
      refine QT.r (QB.r (QT.r (QB.r (QT.r (QB.r (QT.r ?_))))))
      cases H
      exact Ends.auto rfl rfl rfl trivial
    replace H := of_f H h3
    refine WC.skip ?_
    refine QT.n ?_
    refine WC.seq ?_
    refine WC.seq ?_
    refine WC.region ?_
    refine WL.run 2 tt_ok sg0 rfl rfl trivial ?_
    refine WL.nil ?_
    refine QT.n ?_
    refine WC.cond rfl (fun h4 => ?_) (fun h4 => ?_)
    · replace H := of_t H h4
      refine WC.exit ?_
      refine QT.x (QT.x (QB.miss rfl (QT.x (QB.hit (QT.n ?_)))))
      refine WC.region ?_
      refine WL.run 3 tt_ok sg0 rfl rfl trivial ?_
      refine WL.nil ?_
      refine QB.n (QT.n ?_)
      exact ⟨IntKind.i64.wrap ((0 : Int) + 1), H, LessW.mk' ⟨AVle.of rfl, AVle.of rfl, trivial⟩ ⟨rfl, trivial⟩⟩
    replace H := of_f H h4
    refine WC.skip ?_
    refine QT.n ?_
    refine WC.seq ?_
    refine WC.region ?_
    refine WL.run 2 tt_ok sg0 rfl rfl trivial ?_
    refine WL.nil ?_
    refine QT.n ?_
    refine WC.cond rfl (fun h5 => ?_) (fun h5 => ?_)
    · replace H := of_t H h5
      refine WC.exit ?_
      refine QT.x (QB.miss rfl (QT.x (QB.miss rfl (QT.x (QB.hit (QT.n ?_))))))
      exact ⟨0, H, LessW.mk' ⟨AVle.of rfl, AVle.of rfl, trivial⟩ ⟨rfl, trivial⟩⟩
    replace H := of_f H h5
    refine WC.skip ?_
    refine QT.n ?_
    refine WC.exit ?_
    refine QB.miss rfl (QT.x (QB.miss rfl (QT.x (QB.miss rfl (QT.x (QB.hit (QT.n ?_)))))))
    refine WC.seq ?_
    refine WC.seq ?_
    refine WC.region ?_
    refine WL.run 2 tt_ok sg0 rfl rfl trivial ?_
    obtain ⟨x6, hx6, H⟩ := of_bind H
    refine WL.call [] (op_shape_0 _ hx6) op_shape_f rfl rfl trivial rfl rfl rfl ?_
    refine WL.nil ?_
    refine QT.n ?_
    refine WC.block ?_
    obtain ⟨K7, hK7, H⟩ := of_withK H
    refine WC.cut (fun E m => ∃ s8 : Int, K7 s8 = some r ∧ LessW E m [(5, .d (.int .i64 s8))] []) ?_ ?_
    · refine WC.block ?_
      refine WC.seq ?_
      refine WC.block ?_
      refine WC.seq ?_
      refine WC.seq ?_
      refine WC.seq ?_
      refine WC.region ?_
      refine WL.run 2 tt_ok sg0 rfl rfl trivial ?_
      refine WL.nil ?_
      refine QT.n ?_
      refine WC.cond rfl (fun h9 => ?_) (fun h9 => ?_)
      · replace H := of_t H h9
        refine WC.exit ?_
        refine QT.x (QT.x (QB.hit (QT.n ?_)))
        refine WC.region ?_
        refine WL.run 3 tt_ok sg0 rfl rfl trivial ?_
        refine WL.nil ?_
        refine QB.n (QT.n ?_)
        exact ⟨IntKind.i64.wrap ((0 : Int) + 1), H, LessW.mk' ⟨AVle.of rfl, trivial⟩ trivial⟩
      replace H := of_f H h9
      refine WC.skip ?_
      refine QT.n ?_
      refine WC.seq ?_
      refine WC.seq ?_
      refine WC.region ?_
      refine WL.run 2 tt_ok sg0 rfl rfl trivial ?_
      refine WL.nil ?_
      refine QT.n ?_
      refine WC.cond rfl (fun h10 => ?_) (fun h10 => ?_)
      · replace H := of_t H h10
        refine WC.known (g := 26) true rfl h10 ?_
        refine WC.skip ?_
        refine QT.n ?_
        refine WC.cond rfl (fun h => ?_) (fun h => absurd h (by decide))
        refine WC.exit ?_
        refine QT.x (QB.miss rfl (QT.x (QB.hit (QT.n ?_))))
        exact ⟨0, H, LessW.mk' ⟨AVle.of rfl, trivial⟩ trivial⟩
      replace H := of_f H h10
      refine WC.seq ?_
      refine WC.region ?_
      refine WL.run 2 tt_ok sg0 rfl rfl trivial ?_
      refine WL.nil ?_
      refine QT.n ?_
      refine WC.cond rfl (fun h11 => ?_) (fun h11 => ?_)
      · replace H := of_t H h11
        refine WC.known (g := 26) true rfl h11 ?_
        refine WC.skip ?_
        refine QT.n ?_
        refine WC.cond rfl (fun h => ?_) (fun h => absurd h (by decide))
        refine WC.exit ?_
        refine QT.x (QB.miss rfl (QT.x (QB.hit (QT.n ?_))))
        exact ⟨0, H, LessW.mk' ⟨AVle.of rfl, trivial⟩ trivial⟩
      replace H := of_f H h11
      refine WC.region ?_
      refine WL.run 2 tt_ok sg0 rfl rfl trivial ?_
      refine WL.nil ?_
      refine QT.n ?_
      refine WC.cond rfl (fun h12 => ?_) (fun h12 => ?_)
      · replace H := of_t H h12
        refine WC.exit ?_
        refine QT.x (QB.miss rfl (QT.x (QB.hit (QT.n ?_))))
        exact ⟨0, H, LessW.mk' ⟨AVle.of rfl, trivial⟩ trivial⟩
      replace H := of_f H h12
      refine WC.skip ?_
      refine QT.n ?_
      refine WC.exit ?_
      refine QB.miss rfl (QT.x (QB.miss rfl (QT.x (QB.hit (QT.n ?_)))))
      refine WC.seq ?_
      refine WC.region ?_
      refine WL.run 2 tt_ok sg0 rfl rfl trivial ?_
      refine WL.nil ?_
      refine QT.n ?_
      refine WC.ret ?_
      cases H
      exact Ends.auto rfl rfl rfl trivial
    · rintro E m ⟨s8, H, hl⟩
      refine WC.lessW hl ?_
      replace H := (hK7 _).symm.trans H
      try dsimp only at H
      refine WC.seq ?_
      refine WC.region ?_
      refine WL.run 3 tt_ok sg0 rfl rfl trivial ?_
      refine WL.nil ?_
      refine QT.n ?_
      refine WC.exit ?_
      refine QB.hit (QT.n ?_)
      refine WC.seq ?_
      refine WC.region ?_
      refine WL.run 2 tt_ok sg0 rfl rfl trivial ?_
      refine WL.nil ?_
      refine QT.n ?_
      refine WC.ret ?_
      cases H
      exact Ends.auto rfl rfl rfl trivial
  · rintro E m ⟨s2, H, hl⟩
    refine WC.lessW hl ?_
    replace H := (hK1 _).symm.trans H
    try dsimp only at H
    refine WC.seq ?_
    refine WC.seq ?_
    refine WC.region ?_
    refine WL.run 5 tt_ok sg0 rfl rfl trivial ?_
    refine WL.nil ?_
    refine QT.n ?_
    refine WC.ret ?_
    refine QT.r (QB.r (QT.r ?_))
    cases H
    exact Ends.auto rfl rfl rfl trivial
theorem op_Pops_f : hasFunc Try.prog 25 Try.f25 := ⟨Try.func25, rfl, by kernel_rfl⟩

/-! ### logjam/op.Pushes -/
theorem op_Pushes_0 (a0 : Int) {r : Int} (H : op_Pushes a0 = some r) : LJ.Spec Try.prog 26 [.d (.int .i64 a0)] [] (.d (.int .i64 r)) [] := by
  refine LJ.Spec.code Try.func26 rfl 12 rfl rfl [] rfl fun w0 F0 S0 B0 => ?_
  unfold op_Pushes at H
  refine WC.seq ?_
  refine WC.region ?_
  refine WL.run 1 tt_ok sg0 rfl rfl trivial ?_
  refine WL.nil ?_
  refine QT.n ?_
  refine WC.seq ?_
  refine WC.seq ?_
  refine WC.region ?_
  refine WL.run 1 tt_ok sg0 rfl rfl trivial ?_
  obtain ⟨x1, hx1, H⟩ := of_bind H
  refine WL.call [] (op_shape_0 _ hx1) op_shape_f rfl rfl trivial rfl rfl rfl ?_
  refine WL.nil ?_
  refine QT.n ?_
  refine WC.block ?_
  refine WC.seq ?_
  refine WC.seq ?_
  refine WC.region ?_
  refine WL.run 2 tt_ok sg0 rfl rfl trivial ?_
  refine WL.nil ?_
  refine QT.n ?_
  refine WC.cond rfl (fun h2 => ?_) (fun h2 => ?_)
  · replace H := of_t H h2
    refine WC.known (g := 5) true rfl h2 ?_
    refine WC.skip ?_
    refine QT.n ?_
    refine WC.cond rfl (fun h => ?_) (fun h => absurd h (by decide))
    refine WC.seq ?_
    refine WC.region ?_
    refine WL.run 1 tt_ok sg0 rfl rfl trivial ?_
    refine WL.nil ?_
    refine QT.n ?_
    refine WC.ret ?_
    refine QB.r (QT.r ?_)
    cases H
    exact Ends.auto rfl rfl rfl trivial
  replace H := of_f H h2
  refine WC.region ?_
  refine WL.run 2 tt_ok sg0 rfl rfl trivial ?_
  refine WL.nil ?_
  refine QT.n ?_
  refine WC.cond rfl (fun h3 => ?_) (fun h3 => ?_)
  · replace H := of_t H h3
    refine WC.seq ?_
    refine WC.region ?_
    refine WL.run 1 tt_ok sg0 rfl rfl trivial ?_
    refine WL.nil ?_
    refine QT.n ?_
    refine WC.ret ?_
    refine QB.r (QT.r ?_)
    cases H
    exact Ends.auto rfl rfl rfl trivial
  replace H := of_f H h3
  refine WC.seq ?_
  refine WC.seq ?_
  refine WC.region ?_
  refine WL.run 2 tt_ok sg0 rfl rfl trivial ?_
  refine WL.nil ?_
  refine QT.n ?_
  refine WC.cond rfl (fun h4 => ?_) (fun h4 => ?_)
  · replace H := of_t H h4
    refine WC.known (g := 8) true rfl h4 ?_
    refine WC.skip ?_
    refine QT.n ?_
    refine WC.cond rfl (fun h => ?_) (fun h => absurd h (by decide))
    refine WC.seq ?_
    refine WC.region ?_
    refine WL.run 1 tt_ok sg0 rfl rfl trivial ?_
    refine WL.nil ?_
    refine QT.n ?_
    refine WC.ret ?_
    refine QB.r (QT.r ?_)
    cases H
    exact Ends.auto rfl rfl rfl trivial
  replace H := of_f H h4
  refine WC.seq ?_
  refine WC.region ?_
  refine WL.run 2 tt_ok sg0 rfl rfl trivial ?_
  refine WL.nil ?_
  refine QT.n ?_
  refine WC.cond rfl (fun h5 => ?_) (fun h5 => ?_)
  · replace H := of_t H h5
    refine WC.known (g := 8) true rfl h5 ?_
    refine WC.skip ?_
    refine QT.n ?_
    refine WC.cond rfl (fun h => ?_) (fun h => absurd h (by decide))
    refine WC.seq ?_
    refine WC.region ?_
    refine WL.run 1 tt_ok sg0 rfl rfl trivial ?_
    refine WL.nil ?_
    refine QT.n ?_
    refine WC.ret ?_
    refine QB.r (QT.r ?_)
    cases H
    exact Ends.auto rfl rfl rfl trivial
  replace H := of_f H h5
  refine WC.region ?_
  refine WL.run 2 tt_ok sg0 rfl rfl trivial ?_
  refine WL.nil ?_
  refine QT.n ?_
  refine WC.cond rfl (fun h6 => ?_) (fun h6 => ?_)
  · replace H := of_t H h6
    refine WC.seq ?_
    refine WC.region ?_
    refine WL.run 1 tt_ok sg0 rfl rfl trivial ?_
    refine WL.nil ?_
    refine QT.n ?_
    refine WC.ret ?_
    refine QB.r (QT.r ?_)
    cases H
    exact Ends.auto rfl rfl rfl trivial
  replace H := of_f H h6
  refine WC.skip ?_
  refine QB.n (QT.n ?_)
  refine WC.seq ?_
  refine WC.region ?_
  refine WL.run 1 tt_ok sg0 rfl rfl trivial ?_
  refine WL.nil ?_
  refine QT.n ?_
  refine WC.ret ?_
  cases H
  exact Ends.auto rfl rfl rfl trivial
theorem op_Pushes_f : hasFunc Try.prog 26 Try.f26 := ⟨Try.func26, rfl, by kernel_rfl⟩

/-! ### logjam/op.Goes -/
theorem op_Goes_0 (a0 : Int) {r : Bool} (H : op_Goes a0 = some r) : LJ.Spec Try.prog 27 [.d (.int .i64 a0)] [] (.d (.bool r)) [] := by
  refine LJ.Spec.code Try.func27 rfl 13 rfl rfl [] rfl fun w0 F0 S0 B0 => ?_
  unfold op_Goes at H
  refine WC.seq ?_
  refine WC.region ?_
  refine WL.run 1 tt_ok sg0 rfl rfl trivial ?_
  refine WL.nil ?_
  refine QT.n ?_
  refine WC.seq ?_
  refine WC.region ?_
  refine WL.run 1 tt_ok sg0 rfl rfl trivial ?_
  obtain ⟨x1, hx1, H⟩ := of_bind H
  refine WL.call [] (op_known_0 _ hx1) op_known_f rfl rfl trivial rfl rfl rfl ?_
  refine WL.run 1 tt_ok sg0 rfl rfl trivial ?_
  refine WL.sect 2 2 true tt_ok sg0 rfl rfl (fun _ => trivial) ?_
  refine WL.run 2 tt_ok sg0 rfl rfl ⟨by first | exact id | exact fun h => by rw [h]; rfl | simp_all, trivial⟩ ?_
  refine WL.sect 2 6 true tt_ok sg0 rfl rfl (fun _ => trivial) ?_
  refine WL.run 2 tt_ok sg0 rfl rfl ⟨by first | exact id | exact fun h => by rw [h]; rfl | simp_all, trivial⟩ ?_
  refine WL.nil ?_
  refine QT.n ?_
  refine WC.ret ?_
  cases H
  exact Ends.auto rfl rfl rfl trivial
theorem op_Goes_f : hasFunc Try.prog 27 Try.f27 := ⟨Try.func27, rfl, by kernel_rfl⟩

/-! ### (*logjam/depth.walk).look -/
theorem depth_walk_look_0 (a0 : T_depth_walk) (a1 : Int) {r : T_depth_walk} (H : depth_walk_look a0 a1 = some r) : LJ.Spec Try.prog 16 [.ptr 0 0, .d (.int .i64 a1)] [(0, .box 51 [.d (slT enc_api_Decl a0.p.Decls), .d (slT enc_sl_sl_api_Need a0.p.Waits), .d (slT enc_api_Func a0.p.Funcs), .d (slT enc_api_Ins a0.code), .own 1, .own 2, .d (.int .i64 a0.at_), .d (.int .i64 a0.err)]), (1, .row 3 1 (a0.depth.map enc_i64)), (2, .row 4 1 (a0.next.map enc_bool))] (.tup []) [(1, .row 3 1 (r.depth.map enc_i64)), (2, .row 4 1 (r.next.map enc_bool)), (0, .box 51 [.d (slT enc_api_Decl r.p.Decls), .d (slT enc_sl_sl_api_Need r.p.Waits), .d (slT enc_api_Func r.p.Funcs), .d (slT enc_api_Ins r.code), .own 1, .own 2, .d (.int .i64 r.at_), .d (.int .i64 r.err)])] := by
  refine LJ.Spec.code Try.func16 rfl 90 rfl rfl [0] rfl fun w0 F0 S0 B0 => ?_
  unfold depth_walk_look at H
  refine WC.seq ?_
  refine WC.region ?_
  obtain ⟨g1, H⟩ := of_need H
  refine WL.run 7 tt_ok sg0 rfl rfl ⟨⟨(nIn_ok g1).1, (nIn_ok g1).2, rfl⟩, trivial⟩ ?_
  refine WL.alloc 104 tt_ok rfl rfl rfl ?_
  refine WL.eff 0 tt_ok et_ok eg0 rfl rfl rfl trivial ?_
  refine WL.run 1 tt_ok sg0 rfl rfl trivial ?_
  refine WL.nil ?_
  refine QT.n ?_
  refine WC.seq ?_
  refine WC.seq ?_
  refine WC.heldP (.one 0 true (.one 1 true (.one 2 true (.one 3 true (.one 4 true (.one 5 true (.one 6 true (.one 7 true (.one 8 true (.one 9 true (.one 10 true (.one 11 true (.one 12 true (.one 13 true .done)))))))))))))) [0, 104] [0, 104] rfl (by kernel_rfl) rfl (by kernel_rfl) rfl rfl (fun _ h => h) rfl rfl rfl (fun _ _ _ h => h) fun FK NK wK K => ?_
  refine WH.run 4 tt_ok rfl rfl rfl rfl trivial ?_
  refine WH.sect 9 3 true tt_ok rfl rfl rfl rfl (fun _ => trivial) ?_
  refine WH.run 1 tt_ok rfl rfl rfl rfl ⟨by first | exact id | exact fun h => by rw [h]; rfl | simp_all, trivial⟩ ?_
  refine WH.nil rfl ?_
  refine QT.n ?_
  refine WC.cond rfl (fun h2 => ?_) (fun h2 => ?_)
  · replace H := of_t H h2
    refine WC.heldP (.one 0 true (.one 1 true (.one 2 true (.one 3 true (.one 4 true (.one 5 true (.one 6 true (.one 7 true (.one 8 true (.one 9 true (.one 10 true .done))))))))))) [0, 104] [0, 104] rfl (by kernel_rfl) rfl (by kernel_rfl) rfl rfl (fun _ h => h) rfl rfl rfl (fun _ _ _ h => h) fun FK NK wK K => ?_
    obtain ⟨g3, H⟩ := of_need H
    refine WH.run 11 tt_ok rfl rfl rfl rfl ⟨⟨(nIn_ok g3).1, (nIn_ok g3).2, rfl⟩, trivial⟩ ?_
    refine WH.nil rfl ?_
    refine QT.n ?_
    refine WC.seq ?_
    obtain ⟨g3_5_1, H⟩ := of_need H
    obtain ⟨x3_9_1, hx3_9_1, H⟩ := of_bind H
    refine WC.heldF [(0, .ptr 0 0), (1, .d (.int .i64 a1)), (4, .ptr 104 0), (6, .d (.int .i64 (IntKind.i64.wrap ((a0.depth.getD a1.toNat default) - x3_9_1))))] [(0, .box 51 [.d (slT enc_api_Decl a0.p.Decls), .d (slT enc_sl_sl_api_Need a0.p.Waits), .d (slT enc_api_Func a0.p.Funcs), .d (slT enc_api_Ins a0.code), .own 1, .own 2, .d (.int .i64 a0.at_), .d (.int .i64 a0.err)]), (1, .row 3 1 (a0.depth.map enc_i64)), (2, .row 4 1 (a0.next.map enc_bool)), (104, .box 40 [.d (.int .i64 ((a0.code.getD a1.toNat default).Op)), .d (.int .i64 ((a0.code.getD a1.toNat default).A)), .d (.int .i64 ((a0.code.getD a1.toNat default).B))])] (.one 0 true (.one 1 true (.one 2 true (.one 4 true (.one 7 true (.one 8 true (.fork (.one 3 false (.fork (.one 5 false (.fork (.one 6 false (.one 9 false (.one 10 true (.one 11 true .done)))) (.one 9 false (.one 6 false (.one 10 true (.one 11 true .done)))))) (.one 9 false (.one 5 false (.one 6 false (.one 10 true (.one 11 true .done))))))) (.one 9 false (.one 3 false (.one 5 false (.one 6 false (.one 10 true (.one 11 true .done))))))))))))) [0, 104] [0, 104] rfl (by kernel_rfl) rfl (by kernel_rfl) rfl rfl (fun _ h => h) rfl rfl rfl (fun FK NK wK K => ?_) ?_
    · refine WH.run 6 tt_ok rfl rfl rfl rfl trivial ?_
      refine WH.fork ?_ ?_
      · refine WH.val tt_ok rfl rfl rfl rfl rfl trivial rfl rfl ?_
        refine WH.fork ?_ ?_
        · refine WH.yvs rfl (LJ.Y.idxRel enc_i64 a0.depth a1 tt_ok rfl rfl rfl rfl rfl (nIn_ok g3_5_1)) rfl rfl rfl rfl rfl ?_
          refine WH.fork ?_ ?_
          · refine WH.yvs rfl (LJ.Y.loadRel enc_i64 a0.depth a1 0 rfl rfl (fun _ => rfl) rfl (by kernel_rfl) rfl (by first | exact nIn_ok g3_5_1 | (have := nIn_ok g3_5_1; simpa only [List.length_set, List.length_map] using this))) rfl rfl rfl rfl rfl ?_
            refine WH.call [] rfl (op_Pops_0 _ _ hx3_9_1) op_Pops_f rfl rfl trivial rfl rfl rfl rfl rfl ?_
            refine WH.run 2 tt_ok rfl rfl rfl rfl trivial ?_
            exact WH.nilF rfl (LessW.mk' ⟨AVle.of rfl, AVle.of rfl, AVle.of rfl, AVle.of rfl, trivial⟩ ⟨rfl, rfl, rfl, rfl, trivial⟩)
          · refine WH.call [] rfl (op_Pops_0 _ _ hx3_9_1) op_Pops_f rfl rfl trivial rfl rfl rfl rfl rfl ?_
            refine WH.yvs rfl (LJ.Y.loadRel enc_i64 a0.depth a1 0 rfl rfl (fun _ => rfl) rfl (by kernel_rfl) rfl (by first | exact nIn_ok g3_5_1 | (have := nIn_ok g3_5_1; simpa only [List.length_set, List.length_map] using this))) rfl rfl rfl rfl rfl ?_
            refine WH.run 2 tt_ok rfl rfl rfl rfl trivial ?_
            exact WH.nilF rfl (LessW.mk' ⟨AVle.of rfl, AVle.of rfl, AVle.of rfl, AVle.of rfl, trivial⟩ ⟨rfl, rfl, rfl, rfl, trivial⟩)
        · refine WH.call [] rfl (op_Pops_0 _ _ hx3_9_1) op_Pops_f rfl rfl trivial rfl rfl rfl rfl rfl ?_
          refine WH.yvs rfl (LJ.Y.idxRel enc_i64 a0.depth a1 tt_ok rfl rfl rfl rfl rfl (nIn_ok g3_5_1)) rfl rfl rfl rfl rfl ?_
          refine WH.yvs rfl (LJ.Y.loadRel enc_i64 a0.depth a1 0 rfl rfl (fun _ => rfl) rfl (by kernel_rfl) rfl (by first | exact nIn_ok g3_5_1 | (have := nIn_ok g3_5_1; simpa only [List.length_set, List.length_map] using this))) rfl rfl rfl rfl rfl ?_
          refine WH.run 2 tt_ok rfl rfl rfl rfl trivial ?_
          exact WH.nilF rfl (LessW.mk' ⟨AVle.of rfl, AVle.of rfl, AVle.of rfl, AVle.of rfl, trivial⟩ ⟨rfl, rfl, rfl, rfl, trivial⟩)
      · refine WH.call [] rfl (op_Pops_0 _ _ hx3_9_1) op_Pops_f rfl rfl trivial rfl rfl rfl rfl rfl ?_
        refine WH.val tt_ok rfl rfl rfl rfl rfl trivial rfl rfl ?_
        refine WH.yvs rfl (LJ.Y.idxRel enc_i64 a0.depth a1 tt_ok rfl rfl rfl rfl rfl (nIn_ok g3_5_1)) rfl rfl rfl rfl rfl ?_
        refine WH.yvs rfl (LJ.Y.loadRel enc_i64 a0.depth a1 0 rfl rfl (fun _ => rfl) rfl (by kernel_rfl) rfl (by first | exact nIn_ok g3_5_1 | (have := nIn_ok g3_5_1; simpa only [List.length_set, List.length_map] using this))) rfl rfl rfl rfl rfl ?_
        refine WH.run 2 tt_ok rfl rfl rfl rfl trivial ?_
        exact WH.nilF rfl (LessW.mk' ⟨AVle.of rfl, AVle.of rfl, AVle.of rfl, AVle.of rfl, trivial⟩ ⟨rfl, rfl, rfl, rfl, trivial⟩)
    · refine QT.n ?_
      refine WC.seq ?_
      refine WC.seq ?_
      refine WC.region ?_
      refine WL.run 2 tt_ok sg0 rfl rfl trivial ?_
      refine WL.nil ?_
      refine QT.n ?_
      refine WC.cond rfl (fun h4 => ?_) (fun h4 => ?_)
      · replace H := of_t H h4
        refine WC.seq ?_
        refine WC.region ?_
        refine WL.run 2 tt_ok sg0 rfl rfl trivial ?_
        obtain ⟨x5, hx5, H⟩ := of_bind H
        refine WL.call [1, 2] (depth_walk_wrong_s 0 1 2 rfl _ _ _ hx5) depth_walk_wrong_f rfl rfl ⟨rfl, rfl, rfl, trivial⟩ rfl rfl rfl ?_
        refine WL.nil ?_
        refine QT.n ?_
        refine WC.ret ?_
        refine QT.r ?_
        cases H
        exact Ends.auto rfl rfl rfl ⟨rfl, rfl, rfl, trivial⟩
      replace H := of_f H h4
      refine WC.skip ?_
      refine QT.n ?_
      refine WC.seq ?_
      refine WC.seq ?_
      refine WC.region ?_
      refine WL.run 3 tt_ok sg0 rfl rfl trivial ?_
      obtain ⟨x6, hx6, H⟩ := of_bind H
      refine WL.call [] (op_Pushes_0 _ hx6) op_Pushes_f rfl rfl trivial rfl rfl rfl ?_
      refine WL.run 2 tt_ok sg0 rfl rfl trivial ?_
      refine WL.nil ?_
      refine QT.n ?_
      refine WC.seq ?_
      refine WC.region ?_
      refine WL.run 2 tt_ok sg0 rfl rfl trivial ?_
      refine WL.nil ?_
      refine QT.n ?_
      refine WC.cond rfl (fun h7 => ?_) (fun h7 => ?_)
      · replace H := of_t H h7
        refine WC.seq ?_
        refine WC.region ?_
        refine WL.run 2 tt_ok sg0 rfl rfl trivial ?_
        obtain ⟨x8, hx8, H⟩ := of_bind H
        refine WL.call [1, 2] (depth_walk_wrong_s 0 1 2 rfl _ _ _ hx8) depth_walk_wrong_f rfl rfl ⟨rfl, rfl, rfl, trivial⟩ rfl rfl rfl ?_
        refine WL.nil ?_
        refine QT.n ?_
        refine WC.ret ?_
        refine QT.r ?_
        cases H
        exact Ends.auto rfl rfl rfl ⟨rfl, rfl, rfl, trivial⟩
      replace H := of_f H h7
      refine WC.skip ?_
      refine QT.n ?_
      refine WC.seq ?_
      refine WC.seq ?_
      refine WC.region ?_
      refine WL.run 2 tt_ok sg0 rfl rfl trivial ?_
      obtain ⟨x9, hx9, H⟩ := of_bind H
      refine WL.call [] (op_Goes_0 _ hx9) op_Goes_f rfl rfl trivial rfl rfl rfl ?_
      refine WL.run 1 tt_ok sg0 rfl rfl trivial ?_
      refine WL.split (g := 67) rfl (fun h10 => ?_) (fun h10 => ?_)
      · replace H := of_t H h10
        refine WL.grun 5 3 true 67 tt_ok sg0 rfl rfl rfl rfl trivial ?_
        obtain ⟨x11, hx11, H⟩ := of_bind H
        refine WL.gcall [1, 2] (depth_walk_leads_s 0 1 2 rfl _ _ _ _ hx11) depth_walk_leads_f rfl rfl ⟨rfl, rfl, rfl, trivial⟩ rfl rfl rfl rfl rfl rfl ?_
        refine WL.grun 1 3 true 67 tt_ok sg0 rfl rfl rfl rfl trivial ?_
        refine WL.pickT rfl rfl rfl rfl rfl rfl ?_
        refine WL.nil ?_
        refine QT.n ?_
        refine WC.cond rfl (fun h12 => ?_) (fun h12 => ?_)
        · replace H := of_t H h12
          refine WC.ret ?_
          refine QT.r ?_
          cases H
          exact Ends.auto rfl rfl rfl ⟨rfl, rfl, rfl, trivial⟩
        replace H := of_f H h12
        refine WC.skip ?_
        refine QT.n ?_
        refine WC.seq ?_
        refine WC.region ?_
        refine WL.run 4 tt_ok sg0 rfl rfl trivial ?_
        refine WL.sect 3 3 false tt_ok sg0 rfl rfl (fun _ => trivial) ?_
        refine WL.run 1 tt_ok sg0 rfl rfl ⟨by first | exact id | exact fun h => by rw [h]; rfl | simp_all, trivial⟩ ?_
        refine WL.nil ?_
        refine QT.n ?_
        refine WC.cond rfl (fun h13 => ?_) (fun h13 => ?_)
        · replace H := of_t H h13
          refine WC.region ?_
          refine WL.run 5 tt_ok sg0 rfl rfl trivial ?_
          obtain ⟨x14, hx14, H⟩ := of_bind H
          refine WL.call [1, 2] (depth_walk_leads_s 0 1 2 rfl _ _ _ _ hx14) depth_walk_leads_f rfl rfl ⟨rfl, rfl, rfl, trivial⟩ rfl rfl rfl ?_
          refine WL.nil ?_
          cases H
          exact Ends.auton rfl rfl rfl ⟨rfl, rfl, rfl, trivial⟩
        replace H := of_f H h13
        refine WC.skip ?_
        cases H
        exact Ends.auton rfl rfl rfl ⟨rfl, rfl, rfl, trivial⟩
      · replace H := of_f H h10
        refine WL.gskips 7 3 true 67 rfl rfl rfl rfl ?_
        refine WL.pickF rfl rfl rfl rfl rfl rfl ?_
        refine WL.nil ?_
        refine QT.n ?_
        refine WC.cond rfl (fun h => absurd h (by decide)) (fun h => ?_)
        refine WC.skip ?_
        refine QT.n ?_
        refine WC.seq ?_
        refine WC.region ?_
        refine WL.run 4 tt_ok sg0 rfl rfl trivial ?_
        refine WL.sect 3 3 false tt_ok sg0 rfl rfl (fun _ => trivial) ?_
        refine WL.run 1 tt_ok sg0 rfl rfl ⟨by first | exact id | exact fun h => by rw [h]; rfl | simp_all, trivial⟩ ?_
        refine WL.nil ?_
        refine QT.n ?_
        refine WC.cond rfl (fun h15 => ?_) (fun h15 => ?_)
        · replace H := of_t H h15
          refine WC.region ?_
          refine WL.run 5 tt_ok sg0 rfl rfl trivial ?_
          obtain ⟨x16, hx16, H⟩ := of_bind H
          refine WL.call [1, 2] (depth_walk_leads_s 0 1 2 rfl _ _ _ _ hx16) depth_walk_leads_f rfl rfl ⟨rfl, rfl, rfl, trivial⟩ rfl rfl rfl ?_
          refine WL.nil ?_
          cases H
          exact Ends.auton rfl rfl rfl ⟨rfl, rfl, rfl, trivial⟩
        replace H := of_f H h15
        refine WC.skip ?_
        cases H
        exact Ends.auton rfl rfl rfl ⟨rfl, rfl, rfl, trivial⟩
  replace H := of_f H h2
  refine WC.skip ?_
  refine QT.n ?_
  refine WC.seq ?_
  obtain ⟨g3_5_1, H⟩ := of_need H
  obtain ⟨x3_9_1, hx3_9_1, H⟩ := of_bind H
  refine WC.heldF [(0, .ptr 0 0), (1, .d (.int .i64 a1)), (4, .ptr 104 0), (6, .d (.int .i64 (IntKind.i64.wrap ((a0.depth.getD a1.toNat default) - x3_9_1))))] [(0, .box 51 [.d (slT enc_api_Decl a0.p.Decls), .d (slT enc_sl_sl_api_Need a0.p.Waits), .d (slT enc_api_Func a0.p.Funcs), .d (slT enc_api_Ins a0.code), .own 1, .own 2, .d (.int .i64 a0.at_), .d (.int .i64 a0.err)]), (1, .row 3 1 (a0.depth.map enc_i64)), (2, .row 4 1 (a0.next.map enc_bool)), (104, .box 40 [.d (.int .i64 ((a0.code.getD a1.toNat default).Op)), .d (.int .i64 ((a0.code.getD a1.toNat default).A)), .d (.int .i64 ((a0.code.getD a1.toNat default).B))])] (.one 0 true (.one 1 true (.one 2 true (.one 4 true (.one 7 true (.one 8 true (.fork (.one 3 false (.fork (.one 5 false (.fork (.one 6 false (.one 9 false (.one 10 true (.one 11 true .done)))) (.one 9 false (.one 6 false (.one 10 true (.one 11 true .done)))))) (.one 9 false (.one 5 false (.one 6 false (.one 10 true (.one 11 true .done))))))) (.one 9 false (.one 3 false (.one 5 false (.one 6 false (.one 10 true (.one 11 true .done))))))))))))) [0, 104] [0, 104] rfl (by kernel_rfl) rfl (by kernel_rfl) rfl rfl (fun _ h => h) rfl rfl rfl (fun FK NK wK K => ?_) ?_
  · refine WH.run 6 tt_ok rfl rfl rfl rfl trivial ?_
    refine WH.fork ?_ ?_
    · refine WH.val tt_ok rfl rfl rfl rfl rfl trivial rfl rfl ?_
      refine WH.fork ?_ ?_
      · refine WH.yvs rfl (LJ.Y.idxRel enc_i64 a0.depth a1 tt_ok rfl rfl rfl rfl rfl (nIn_ok g3_5_1)) rfl rfl rfl rfl rfl ?_
        refine WH.fork ?_ ?_
        · refine WH.yvs rfl (LJ.Y.loadRel enc_i64 a0.depth a1 0 rfl rfl (fun _ => rfl) rfl (by kernel_rfl) rfl (by first | exact nIn_ok g3_5_1 | (have := nIn_ok g3_5_1; simpa only [List.length_set, List.length_map] using this))) rfl rfl rfl rfl rfl ?_
          refine WH.call [] rfl (op_Pops_0 _ _ hx3_9_1) op_Pops_f rfl rfl trivial rfl rfl rfl rfl rfl ?_
          refine WH.run 2 tt_ok rfl rfl rfl rfl trivial ?_
          exact WH.nilF rfl (LessW.mk' ⟨AVle.of rfl, AVle.of rfl, AVle.of rfl, AVle.of rfl, trivial⟩ ⟨rfl, rfl, rfl, rfl, trivial⟩)
        · refine WH.call [] rfl (op_Pops_0 _ _ hx3_9_1) op_Pops_f rfl rfl trivial rfl rfl rfl rfl rfl ?_
          refine WH.yvs rfl (LJ.Y.loadRel enc_i64 a0.depth a1 0 rfl rfl (fun _ => rfl) rfl (by kernel_rfl) rfl (by first | exact nIn_ok g3_5_1 | (have := nIn_ok g3_5_1; simpa only [List.length_set, List.length_map] using this))) rfl rfl rfl rfl rfl ?_
          refine WH.run 2 tt_ok rfl rfl rfl rfl trivial ?_
          exact WH.nilF rfl (LessW.mk' ⟨AVle.of rfl, AVle.of rfl, AVle.of rfl, AVle.of rfl, trivial⟩ ⟨rfl, rfl, rfl, rfl, trivial⟩)
      · refine WH.call [] rfl (op_Pops_0 _ _ hx3_9_1) op_Pops_f rfl rfl trivial rfl rfl rfl rfl rfl ?_
        refine WH.yvs rfl (LJ.Y.idxRel enc_i64 a0.depth a1 tt_ok rfl rfl rfl rfl rfl (nIn_ok g3_5_1)) rfl rfl rfl rfl rfl ?_
        refine WH.yvs rfl (LJ.Y.loadRel enc_i64 a0.depth a1 0 rfl rfl (fun _ => rfl) rfl (by kernel_rfl) rfl (by first | exact nIn_ok g3_5_1 | (have := nIn_ok g3_5_1; simpa only [List.length_set, List.length_map] using this))) rfl rfl rfl rfl rfl ?_
        refine WH.run 2 tt_ok rfl rfl rfl rfl trivial ?_
        exact WH.nilF rfl (LessW.mk' ⟨AVle.of rfl, AVle.of rfl, AVle.of rfl, AVle.of rfl, trivial⟩ ⟨rfl, rfl, rfl, rfl, trivial⟩)
    · refine WH.call [] rfl (op_Pops_0 _ _ hx3_9_1) op_Pops_f rfl rfl trivial rfl rfl rfl rfl rfl ?_
      refine WH.val tt_ok rfl rfl rfl rfl rfl trivial rfl rfl ?_
      refine WH.yvs rfl (LJ.Y.idxRel enc_i64 a0.depth a1 tt_ok rfl rfl rfl rfl rfl (nIn_ok g3_5_1)) rfl rfl rfl rfl rfl ?_
      refine WH.yvs rfl (LJ.Y.loadRel enc_i64 a0.depth a1 0 rfl rfl (fun _ => rfl) rfl (by kernel_rfl) rfl (by first | exact nIn_ok g3_5_1 | (have := nIn_ok g3_5_1; simpa only [List.length_set, List.length_map] using this))) rfl rfl rfl rfl rfl ?_
      refine WH.run 2 tt_ok rfl rfl rfl rfl trivial ?_
      exact WH.nilF rfl (LessW.mk' ⟨AVle.of rfl, AVle.of rfl, AVle.of rfl, AVle.of rfl, trivial⟩ ⟨rfl, rfl, rfl, rfl, trivial⟩)
  · refine QT.n ?_
    refine WC.seq ?_
    refine WC.seq ?_
    refine WC.region ?_
    refine WL.run 2 tt_ok sg0 rfl rfl trivial ?_
    refine WL.nil ?_
    refine QT.n ?_
    refine WC.cond rfl (fun h17 => ?_) (fun h17 => ?_)
    · replace H := of_t H h17
      refine WC.seq ?_
      refine WC.region ?_
      refine WL.run 2 tt_ok sg0 rfl rfl trivial ?_
      obtain ⟨x18, hx18, H⟩ := of_bind H
      refine WL.call [1, 2] (depth_walk_wrong_s 0 1 2 rfl _ _ _ hx18) depth_walk_wrong_f rfl rfl ⟨rfl, rfl, rfl, trivial⟩ rfl rfl rfl ?_
      refine WL.nil ?_
      refine QT.n ?_
      refine WC.ret ?_
      refine QT.r ?_
      cases H
      exact Ends.auto rfl rfl rfl ⟨rfl, rfl, rfl, trivial⟩
    replace H := of_f H h17
    refine WC.skip ?_
    refine QT.n ?_
    refine WC.seq ?_
    refine WC.seq ?_
    refine WC.region ?_
    refine WL.run 3 tt_ok sg0 rfl rfl trivial ?_
    obtain ⟨x19, hx19, H⟩ := of_bind H
    refine WL.call [] (op_Pushes_0 _ hx19) op_Pushes_f rfl rfl trivial rfl rfl rfl ?_
    refine WL.run 2 tt_ok sg0 rfl rfl trivial ?_
    refine WL.nil ?_
    refine QT.n ?_
    refine WC.seq ?_
    refine WC.region ?_
    refine WL.run 2 tt_ok sg0 rfl rfl trivial ?_
    refine WL.nil ?_
    refine QT.n ?_
    refine WC.cond rfl (fun h20 => ?_) (fun h20 => ?_)
    · replace H := of_t H h20
      refine WC.seq ?_
      refine WC.region ?_
      refine WL.run 2 tt_ok sg0 rfl rfl trivial ?_
      obtain ⟨x21, hx21, H⟩ := of_bind H
      refine WL.call [1, 2] (depth_walk_wrong_s 0 1 2 rfl _ _ _ hx21) depth_walk_wrong_f rfl rfl ⟨rfl, rfl, rfl, trivial⟩ rfl rfl rfl ?_
      refine WL.nil ?_
      refine QT.n ?_
      refine WC.ret ?_
      refine QT.r ?_
      cases H
      exact Ends.auto rfl rfl rfl ⟨rfl, rfl, rfl, trivial⟩
    replace H := of_f H h20
    refine WC.skip ?_
    refine QT.n ?_
    refine WC.seq ?_
    refine WC.seq ?_
    refine WC.region ?_
    refine WL.run 2 tt_ok sg0 rfl rfl trivial ?_
    obtain ⟨x22, hx22, H⟩ := of_bind H
    refine WL.call [] (op_Goes_0 _ hx22) op_Goes_f rfl rfl trivial rfl rfl rfl ?_
    refine WL.run 1 tt_ok sg0 rfl rfl trivial ?_
    refine WL.split (g := 67) rfl (fun h23 => ?_) (fun h23 => ?_)
    · replace H := of_t H h23
      refine WL.grun 5 3 true 67 tt_ok sg0 rfl rfl rfl rfl trivial ?_
      obtain ⟨x24, hx24, H⟩ := of_bind H
      refine WL.gcall [1, 2] (depth_walk_leads_s 0 1 2 rfl _ _ _ _ hx24) depth_walk_leads_f rfl rfl ⟨rfl, rfl, rfl, trivial⟩ rfl rfl rfl rfl rfl rfl ?_
      refine WL.grun 1 3 true 67 tt_ok sg0 rfl rfl rfl rfl trivial ?_
      refine WL.pickT rfl rfl rfl rfl rfl rfl ?_
      refine WL.nil ?_
      refine QT.n ?_
      refine WC.cond rfl (fun h25 => ?_) (fun h25 => ?_)
      · replace H := of_t H h25
        refine WC.ret ?_
        refine QT.r ?_
        cases H
        exact Ends.auto rfl rfl rfl ⟨rfl, rfl, rfl, trivial⟩
      replace H := of_f H h25
      refine WC.skip ?_
      refine QT.n ?_
      refine WC.seq ?_
      refine WC.region ?_
      refine WL.run 4 tt_ok sg0 rfl rfl trivial ?_
      refine WL.sect 3 3 false tt_ok sg0 rfl rfl (fun _ => trivial) ?_
      refine WL.run 1 tt_ok sg0 rfl rfl ⟨by first | exact id | exact fun h => by rw [h]; rfl | simp_all, trivial⟩ ?_
      refine WL.nil ?_
      refine QT.n ?_
      refine WC.cond rfl (fun h26 => ?_) (fun h26 => ?_)
      · replace H := of_t H h26
        refine WC.region ?_
        refine WL.run 5 tt_ok sg0 rfl rfl trivial ?_
        obtain ⟨x27, hx27, H⟩ := of_bind H
        refine WL.call [1, 2] (depth_walk_leads_s 0 1 2 rfl _ _ _ _ hx27) depth_walk_leads_f rfl rfl ⟨rfl, rfl, rfl, trivial⟩ rfl rfl rfl ?_
        refine WL.nil ?_
        cases H
        exact Ends.auton rfl rfl rfl ⟨rfl, rfl, rfl, trivial⟩
      replace H := of_f H h26
      refine WC.skip ?_
      cases H
      exact Ends.auton rfl rfl rfl ⟨rfl, rfl, rfl, trivial⟩
    · replace H := of_f H h23
      refine WL.gskips 7 3 true 67 rfl rfl rfl rfl ?_
      refine WL.pickF rfl rfl rfl rfl rfl rfl ?_
      refine WL.nil ?_
      refine QT.n ?_
      refine WC.cond rfl (fun h => absurd h (by decide)) (fun h => ?_)
      refine WC.skip ?_
      refine QT.n ?_
      refine WC.seq ?_
      refine WC.region ?_
      refine WL.run 4 tt_ok sg0 rfl rfl trivial ?_
      refine WL.sect 3 3 false tt_ok sg0 rfl rfl (fun _ => trivial) ?_
      refine WL.run 1 tt_ok sg0 rfl rfl ⟨by first | exact id | exact fun h => by rw [h]; rfl | simp_all, trivial⟩ ?_
      refine WL.nil ?_
      refine QT.n ?_
      refine WC.cond rfl (fun h28 => ?_) (fun h28 => ?_)
      · replace H := of_t H h28
        refine WC.region ?_
        refine WL.run 5 tt_ok sg0 rfl rfl trivial ?_
        obtain ⟨x29, hx29, H⟩ := of_bind H
        refine WL.call [1, 2] (depth_walk_leads_s 0 1 2 rfl _ _ _ _ hx29) depth_walk_leads_f rfl rfl ⟨rfl, rfl, rfl, trivial⟩ rfl rfl rfl ?_
        refine WL.nil ?_
        cases H
        exact Ends.auton rfl rfl rfl ⟨rfl, rfl, rfl, trivial⟩
      replace H := of_f H h28
      refine WC.skip ?_
      cases H
      exact Ends.auton rfl rfl rfl ⟨rfl, rfl, rfl, trivial⟩
theorem depth_walk_look_s (n0 n1 n2 : Nat) (hn : nodupB [n0, n1, n2] = true) (a0 : T_depth_walk) (a1 : Int) {r : T_depth_walk} (H : depth_walk_look a0 a1 = some r) : LJ.Spec Try.prog 16 [.ptr n0 0, .d (.int .i64 a1)] [(n0, .box 51 [.d (slT enc_api_Decl a0.p.Decls), .d (slT enc_sl_sl_api_Need a0.p.Waits), .d (slT enc_api_Func a0.p.Funcs), .d (slT enc_api_Ins a0.code), .own n1, .own n2, .d (.int .i64 a0.at_), .d (.int .i64 a0.err)]), (n1, .row 3 1 (a0.depth.map enc_i64)), (n2, .row 4 1 (a0.next.map enc_bool))] (.tup []) [(n1, .row 3 1 (r.depth.map enc_i64)), (n2, .row 4 1 (r.next.map enc_bool)), (n0, .box 51 [.d (slT enc_api_Decl r.p.Decls), .d (slT enc_sl_sl_api_Need r.p.Waits), .d (slT enc_api_Func r.p.Funcs), .d (slT enc_api_Ins r.code), .own n1, .own n2, .d (.int .i64 r.at_), .d (.int .i64 r.err)])] :=
  Spec.names [n0, n1, n2] hn rfl rfl (depth_walk_look_0 a0 a1 H)
theorem depth_walk_look_f : hasFunc Try.prog 16 Try.f16 := ⟨Try.func16, rfl, by kernel_rfl⟩

/-! ### logjam/depth.Of -/
theorem depth_Of_0 (a0 : T_api_Program) (a1 : Int) {r : (List Int) × Int × Int} (H : depth_Of a0 a1 = some r) : LJ.Spec Try.prog 7 [.d (.agg [slT enc_api_Decl a0.Decls, slT enc_sl_sl_api_Need a0.Waits, slT enc_api_Func a0.Funcs]), .d (.int .i64 a1)] [] (.tup [.d (slT enc_i64 r.1), .d (.int .i64 r.2.1), .d (.int .i64 r.2.2)]) [] := by
  refine LJ.Spec.code Try.func7 rfl 101 rfl rfl [] rfl fun w0 F0 S0 B0 => ?_
  unfold depth_Of at H
  refine WC.seq ?_
  refine WC.region ?_
  refine WL.eff 102 tt_ok et_ok eg0 rfl rfl rfl trivial ?_
  refine WL.run 3 tt_ok sg0 rfl rfl trivial ?_
  refine WL.nil ?_
  refine QT.n ?_
  refine WC.seq ?_
  refine WC.seq ?_
  refine WC.region ?_
  refine WL.run 3 tt_ok sg0 rfl rfl trivial ?_
  refine WL.sect 5 2 false tt_ok sg0 rfl rfl (fun _ => trivial) ?_
  refine WL.run 1 tt_ok sg0 rfl rfl ⟨by first | exact id | exact fun h => by rw [h]; rfl | simp_all, trivial⟩ ?_
  refine WL.nil ?_
  refine QT.n ?_
  refine WC.cond rfl (fun h1 => ?_) (fun h1 => ?_)
  · replace H := of_t H h1
    refine WC.seq ?_
    refine WC.region ?_
    refine WL.run 3 tt_ok sg0 rfl rfl trivial ?_
    refine WL.nil ?_
    refine QT.n ?_
    refine WC.nilT 4 enc_i64 rfl ?_
    refine WC.ret ?_
    refine QT.r ?_
    cases H
    exact Ends.auto rfl rfl rfl trivial
  replace H := of_f H h1
  refine WC.skip ?_
  refine QT.n ?_
  refine WC.seq ?_
  refine WC.heldP (.one 0 true (.one 1 true (.one 2 true (.one 3 true (.one 4 true (.one 5 true (.one 6 true (.one 7 true (.one 8 false (.one 9 true .done)))))))))) [102] [102] rfl (by kernel_rfl) rfl (by kernel_rfl) rfl rfl (fun _ h => h) rfl rfl rfl (fun _ _ _ h => h) fun FK NK wK K => ?_
  obtain ⟨g2, H⟩ := of_need H
  refine WH.run 8 tt_ok rfl rfl rfl rfl ⟨⟨(nIn_ok g2).1, (nIn_ok g2).2, rfl⟩, trivial⟩ ?_
  refine WH.eff 127 tt_ok et_ok rfl rfl rfl rfl trivial rfl rfl ?_
  refine WH.mv rfl rfl rfl rfl rfl rfl rfl rfl rfl ?_
  refine WH.nil rfl ?_
  refine QT.n ?_
  refine WC.seq ?_
  refine WC.region ?_
  refine WL.run 6 tt_ok sg0 rfl rfl trivial ?_
  obtain ⟨g3, H⟩ := of_need H
  refine WL.makeT (r := 134) enc_i64 (0 : Int) (((a0.Funcs.getD a1.toNat default).Code).length : Int) tt_ok et_ok rfl rfl rfl rfl rfl rfl rfl (nMk_ok g3) rfl rfl rfl rfl ?_
  refine WL.run 2 tt_ok sg0 rfl rfl trivial ?_
  refine WL.eff 0 tt_ok et_ok eg0 rfl rfl rfl trivial ?_
  refine WL.nil ?_
  refine QT.n ?_
  refine WC.seq ?_
  refine WC.seq ?_
  refine WC.region ?_
  refine WL.run 6 tt_ok sg0 rfl rfl trivial ?_
  refine WL.nil ?_
  refine QT.n ?_
  refine WC.block ?_
  refine WC.loop (ι := {x : Nat × (Int × (List Int)) // depth_Of_l5 a0 a1 x.1 x.2 = some r}) (fun x => [(7, .ptr 127 0), (41, .d (.int .i64 (((List.replicate (((a0.Funcs.getD a1.toNat default).Code).length : Int).toNat (0 : Int)).map enc_i64).length : Int))), (42, .d (.int .i64 x.1.2.1))]) (fun x => [(127, .box 51 [.d (slT enc_api_Decl a0.Decls), .d (slT enc_sl_sl_api_Need a0.Waits), .d (slT enc_api_Func a0.Funcs), .d (slT enc_api_Ins ((a0.Funcs.getD a1.toNat default).Code)), .own 134, .d (.nils), .d (.int .i64 0), .d (.int .i64 0)]), (134, .row 3 1 (x.1.2.2.map enc_i64))]) (fun x => x.1.1) ⟨(fuel, (0, List.replicate (((a0.Funcs.getD a1.toNat default).Code).length : Int).toNat (0 : Int))), H⟩ (Less.mk' ⟨rfl, rfl, rfl, trivial⟩ ⟨rfl, rfl, trivial⟩) fun x => ?_
  obtain ⟨⟨k5, s4⟩, H⟩ := x
  rcases k5 with _ | k5
  · exact of_none H
  rw [depth_Of_l5] at H
  refine WC.seq ?_
  refine WC.region ?_
  refine WL.run 1 tt_ok sg0 rfl rfl trivial ?_
  refine WL.nil ?_
  refine QT.n ?_
  refine WC.seq ?_
  refine WC.cond rfl (fun h6 => ?_) (fun h6 => ?_)
  · replace H := of_t H h6
    refine WC.skip ?_
    refine QT.n ?_
    refine WC.seq ?_
    refine WC.block ?_
    refine WC.seq ?_
    refine WC.region ?_
    refine WL.run 2 tt_ok sg0 rfl rfl trivial ?_
    refine WL.nil ?_
    refine QT.n ?_
    refine WC.region ?_
    refine WL.run 5 tt_ok sg0 rfl rfl trivial ?_
    obtain ⟨g7, H⟩ := of_need H
    refine WL.yv (LJ.Y.idxRel enc_i64 s4.2 s4.1 tt_ok rfl rfl rfl rfl rfl (nIn_ok g7)) rfl rfl rfl ?_
    refine WL.storeRel enc_i64 s4.2 s4.1 0 (-1) (.int .i64 (-1)) rfl rfl rfl rfl (fun _ => rfl) rfl (by kernel_rfl) rfl rfl (by first | exact nIn_ok g7 | (have := nIn_ok g7; simpa only [List.length_set, List.length_map] using this)) rfl rfl rfl rfl ?_
    refine WL.nil ?_
    refine QB.n (QT.n ?_)
    refine WC.region ?_
    refine WL.run 2 tt_ok sg0 rfl rfl trivial ?_
    refine WL.nil ?_
    refine QT.n ?_
    exact ⟨⟨(k5, (IntKind.i64.wrap (s4.1 + 1), s4.2.set s4.1.toNat (-1))), H⟩, Nat.lt_succ_self _, Less.mk' ⟨rfl, rfl, rfl, trivial⟩ ⟨rfl, rfl, trivial⟩⟩
  replace H := of_f H h6
  refine WC.exit ?_
  refine QT.x (QT.x (QB.hit (QT.n ?_)))
  refine WC.seq ?_
  refine WC.seq ?_
  refine WC.region ?_
  refine WL.run 6 tt_ok sg0 rfl rfl trivial ?_
  refine WL.nil ?_
  refine QT.n ?_
  refine WC.cond rfl (fun h8 => ?_) (fun h8 => ?_)
  · replace H := of_t H h8
    refine WC.seq ?_
    refine WC.region ?_
    refine WL.run 3 tt_ok sg0 rfl rfl trivial ?_
    refine WL.nil ?_
    refine QT.n ?_
    refine WC.nilT 4 enc_i64 rfl ?_
    refine WC.ret ?_
    refine QT.r ?_
    cases H
    exact Ends.auto rfl rfl rfl trivial
  replace H := of_f H h8
  refine WC.skip ?_
  refine QT.n ?_
  refine WC.seq ?_
  refine WC.region ?_
  refine WL.run 6 tt_ok sg0 rfl rfl trivial ?_
  obtain ⟨g9, H⟩ := of_need H
  refine WL.makeT (r := 164) enc_bool (false : Bool) (((a0.Funcs.getD a1.toNat default).Code).length : Int) tt_ok et_ok rfl rfl rfl rfl rfl rfl rfl (nMk_ok g9) rfl rfl rfl rfl ?_
  refine WL.run 2 tt_ok sg0 rfl rfl trivial ?_
  refine WL.eff 0 tt_ok et_ok eg0 rfl rfl rfl trivial ?_
  refine WL.nil ?_
  refine QT.n ?_
  refine WC.seq ?_
  refine WC.region ?_
  refine WL.run 1 tt_ok sg0 rfl rfl trivial ?_
  obtain ⟨x10, hx10, H⟩ := of_bind H
  refine WL.call [134, 164] (depth_walk_leads_s 127 134 164 rfl _ _ _ _ hx10) depth_walk_leads_f rfl rfl ⟨rfl, rfl, rfl, trivial⟩ rfl rfl rfl ?_
  refine WL.nil ?_
  refine QT.n ?_
  refine WC.seq ?_
  refine WC.seq ?_
  refine WC.region ?_
  refine WL.run 1 tt_ok sg0 rfl rfl trivial ?_
  obtain ⟨x11, hx11, H⟩ := of_bind H
  refine WL.call [134, 164] (depth_walk_least_s 127 134 164 rfl _ hx11) depth_walk_least_f rfl rfl ⟨rfl, rfl, rfl, trivial⟩ rfl rfl rfl ?_
  refine WL.run 1 tt_ok sg0 rfl rfl trivial ?_
  refine WL.nil ?_
  refine QT.n ?_
  refine WC.block ?_
  refine WC.loop (ι := {x : Nat × (Int × (List T_api_Decl) × (List (List (List T_api_Need))) × (List T_api_Func) × (List T_api_Ins) × Int × Int × (List Int) × (List Bool)) // depth_Of_l13 x.1 x.2 = some r}) (fun x => [(7, .ptr 127 0), (9, .d (.int .i64 x.1.2.1))]) (fun x => [(127, .box 51 [.d (slT enc_api_Decl x.1.2.2.1), .d (slT enc_sl_sl_api_Need x.1.2.2.2.1), .d (slT enc_api_Func x.1.2.2.2.2.1), .d (slT enc_api_Ins x.1.2.2.2.2.2.1), .own 134, .own 164, .d (.int .i64 x.1.2.2.2.2.2.2.1), .d (.int .i64 x.1.2.2.2.2.2.2.2.1)]), (134, .row 3 1 (x.1.2.2.2.2.2.2.2.2.1.map enc_i64)), (164, .row 4 1 (x.1.2.2.2.2.2.2.2.2.2.map enc_bool))]) (fun x => x.1.1) ⟨(fuel, (x11, x10.2.p.Decls, x10.2.p.Waits, x10.2.p.Funcs, x10.2.code, x10.2.at_, x10.2.err, x10.2.depth, x10.2.next)), H⟩ (Less.mk' ⟨rfl, rfl, trivial⟩ ⟨rfl, rfl, rfl, trivial⟩) fun x => ?_
  obtain ⟨⟨k13, s12⟩, H⟩ := x
  rcases k13 with _ | k13
  · exact of_none H
  rw [depth_Of_l13] at H
  refine WC.seq ?_
  refine WC.seq ?_
  refine WC.region ?_
  refine WL.run 2 tt_ok sg0 rfl rfl trivial ?_
  refine WL.nil ?_
  refine QT.n ?_
  refine WC.cond rfl (fun h14 => ?_) (fun h14 => ?_)
  · replace H := of_t H h14
    refine WC.skip ?_
    refine QT.n ?_
    refine WC.seq ?_
    refine WC.block ?_
    refine WC.seq ?_
    refine WC.region ?_
    refine WL.run 5 tt_ok sg0 rfl rfl trivial ?_
    obtain ⟨g15, H⟩ := of_need H
    refine WL.yv (LJ.Y.idxRel enc_bool s12.2.2.2.2.2.2.2.2 s12.1 tt_ok rfl rfl rfl rfl rfl (nIn_ok g15)) rfl rfl rfl ?_
    refine WL.storeRel enc_bool s12.2.2.2.2.2.2.2.2 s12.1 0 false (.bool false) rfl rfl rfl rfl (fun _ => rfl) rfl (by kernel_rfl) rfl rfl (by first | exact nIn_ok g15 | (have := nIn_ok g15; simpa only [List.length_set, List.length_map] using this)) rfl rfl rfl rfl ?_
    refine WL.nil ?_
    refine QT.n ?_
    refine WC.region ?_
    refine WL.run 2 tt_ok sg0 rfl rfl trivial ?_
    obtain ⟨x16, hx16, H⟩ := of_bind H
    refine WL.call [134, 164] (depth_walk_look_s 127 134 164 rfl _ _ hx16) depth_walk_look_f rfl rfl ⟨rfl, rfl, rfl, trivial⟩ rfl rfl rfl ?_
    refine WL.nil ?_
    refine QB.n (QT.n ?_)
    refine WC.region ?_
    refine WL.run 1 tt_ok sg0 rfl rfl trivial ?_
    obtain ⟨x17, hx17, H⟩ := of_bind H
    refine WL.call [134, 164] (depth_walk_least_s 127 134 164 rfl _ hx17) depth_walk_least_f rfl rfl ⟨rfl, rfl, rfl, trivial⟩ rfl rfl rfl ?_
    refine WL.run 1 tt_ok sg0 rfl rfl trivial ?_
    refine WL.nil ?_
    refine QT.n ?_
    exact ⟨⟨(k13, (x17, x16.p.Decls, x16.p.Waits, x16.p.Funcs, x16.code, x16.at_, x16.err, x16.depth, x16.next)), H⟩, Nat.lt_succ_self _, Less.mk' ⟨rfl, rfl, trivial⟩ ⟨rfl, rfl, rfl, trivial⟩⟩
  replace H := of_f H h14
  refine WC.exit ?_
  refine QT.x (QT.x (QB.hit (QT.n ?_)))
  refine WC.seq ?_
  refine WC.seq ?_
  refine WC.region ?_
  refine WL.run 5 tt_ok sg0 rfl rfl trivial ?_
  refine WL.nil ?_
  refine QT.n ?_
  refine WC.cond rfl (fun h18 => ?_) (fun h18 => ?_)
  · replace H := of_t H h18
    refine WC.seq ?_
    refine WC.heldP (.one 0 true (.one 1 true (.one 2 true (.one 3 true (.one 4 true (.one 5 true (.one 6 true (.one 7 true (.one 8 true (.one 9 true (.one 10 true .done))))))))))) [127] [127] rfl (by kernel_rfl) rfl (by kernel_rfl) rfl rfl (fun _ h => h) rfl rfl rfl (fun _ _ _ h => h) fun FK NK wK K => ?_
    refine WH.run 11 tt_ok rfl rfl rfl rfl trivial ?_
    refine WH.nil rfl ?_
    refine QT.n ?_
    refine WC.nilT 4 enc_i64 rfl ?_
    refine WC.ret ?_
    refine QT.r ?_
    cases H
    exact Ends.auto rfl rfl rfl trivial
  replace H := of_f H h18
  refine WC.skip ?_
  refine QT.n ?_
  refine WC.seq ?_
  refine WC.region ?_
  refine WL.run 7 tt_ok sg0 rfl rfl trivial ?_
  refine WL.nil ?_
  refine QT.n ?_
  refine WC.freezeT 134 enc_i64 s12.2.2.2.2.2.2.2.1 rfl rfl rfl rfl ?_
  refine WC.ret ?_
  cases H
  exact Ends.auto rfl rfl rfl trivial
theorem depth_Of_f : hasFunc Try.prog 7 Try.f7 := ⟨Try.func7, rfl, by kernel_rfl⟩

/-! ### logjam/depth.Most -/
theorem depth_Most_0 (a0 : List Int) {r : Int} (H : depth_Most a0 = some r) : LJ.Spec Try.prog 9 [.d (slT enc_i64 a0)] [] (.d (.int .i64 r)) [] := by
  refine LJ.Spec.code Try.func9 rfl 17 rfl rfl [] rfl fun w0 F0 S0 B0 => ?_
  unfold depth_Most at H
  refine WC.seq ?_
  refine WC.region ?_
  refine WL.run 1 tt_ok sg0 rfl rfl trivial ?_
  refine WL.nil ?_
  refine QT.n ?_
  refine WC.seq ?_
  refine WC.region ?_
  refine WL.run 1 tt_ok sg0 rfl rfl trivial ?_
  refine WL.nil ?_
  refine QT.n ?_
  refine WC.seq ?_
  refine WC.seq ?_
  refine WC.region ?_
  refine WL.run 3 tt_ok sg0 rfl rfl trivial ?_
  refine WL.nil ?_
  refine QT.n ?_
  refine WC.block ?_
  refine WC.loop (ι := {x : Nat × (Int × Int) // depth_Most_l2 a0 x.1 x.2 = some r}) (fun x => [(3, .d (.int .i64 x.1.2.1)), (6, .d (slT enc_i64 a0)), (7, .d (.int .i64 (a0.length : Int))), (8, .d (.int .i64 x.1.2.2))]) (fun x => []) (fun x => x.1.1) ⟨(fuel, (0, 0)), H⟩ (Less.mk' ⟨rfl, rfl, rfl, rfl, trivial⟩ trivial) fun x => ?_
  obtain ⟨⟨k2, s1⟩, H⟩ := x
  rcases k2 with _ | k2
  · exact of_none H
  rw [depth_Most_l2] at H
  refine WC.seq ?_
  refine WC.region ?_
  refine WL.run 1 tt_ok sg0 rfl rfl trivial ?_
  refine WL.nil ?_
  refine QT.n ?_
  refine WC.seq ?_
  refine WC.cond rfl (fun h3 => ?_) (fun h3 => ?_)
  · replace H := of_t H h3
    refine WC.skip ?_
    refine QT.n ?_
    refine WC.seq ?_
    refine WC.block ?_
    refine WC.seq ?_
    refine WC.region ?_
    obtain ⟨g4, H⟩ := of_need H
    refine WL.run 3 tt_ok sg0 rfl rfl ⟨⟨(nIn_ok g4).1, (nIn_ok g4).2, rfl⟩, trivial⟩ ?_
    refine WL.nil ?_
    refine QT.n ?_
    refine WC.region ?_
    refine WL.run 2 tt_ok sg0 rfl rfl trivial ?_
    refine WL.yv (LJ.Y.max rfl rfl rfl) rfl rfl rfl ?_
    refine WL.run 1 tt_ok sg0 rfl rfl trivial ?_
    refine WL.nil ?_
    refine QB.n (QT.n ?_)
    refine WC.region ?_
    refine WL.run 2 tt_ok sg0 rfl rfl trivial ?_
    refine WL.nil ?_
    refine QT.n ?_
    exact ⟨⟨(k2, (iMax s1.1 (a0.getD s1.2.toNat default), IntKind.i64.wrap (s1.2 + 1))), H⟩, Nat.lt_succ_self _, Less.mk' ⟨rfl, rfl, rfl, rfl, trivial⟩ trivial⟩
  replace H := of_f H h3
  refine WC.exit ?_
  refine QT.x (QT.x (QB.hit (QT.n ?_)))
  refine WC.seq ?_
  refine WC.region ?_
  refine WL.run 2 tt_ok sg0 rfl rfl trivial ?_
  refine WL.nil ?_
  refine QT.n ?_
  refine WC.ret ?_
  cases H
  exact Ends.auto rfl rfl rfl trivial
theorem depth_Most_f : hasFunc Try.prog 9 Try.f9 := ⟨Try.func9, rfl, by kernel_rfl⟩

/-! ### logjam/logjamlaw11.lives -/
theorem law11_lives_0  {r : Bool} (H : law11_lives = some r) : LJ.Spec Try.prog 6 [] [] (.d (.bool r)) [] := by
  refine LJ.Spec.code Try.func6 rfl 63 rfl rfl [] rfl fun w0 F0 S0 B0 => ?_
  unfold law11_lives at H
  refine WC.seq ?_
  refine WC.region ?_
  refine WL.run 1 tt_ok sg0 rfl rfl trivial ?_
  refine WL.nil ?_
  refine QT.n ?_
  refine WC.seq ?_
  refine WC.region ?_
  refine WL.run 4 tt_ok sg0 rfl rfl trivial ?_
  refine WL.eff 112 tt_ok et_ok eg0 rfl rfl rfl trivial ?_
  refine WL.freezeT 112 enc_api_Ins ([(⟨0, 0, 0⟩ : T_api_Ins), (⟨0, 0, 0⟩ : T_api_Ins), (⟨3, 0, 0⟩ : T_api_Ins), (⟨21, 0, 0⟩ : T_api_Ins)] : List T_api_Ins) rfl rfl rfl rfl ?_
  refine WL.run 2 tt_ok sg0 rfl rfl trivial ?_
  refine WL.eff 115 tt_ok et_ok eg0 rfl rfl rfl trivial ?_
  refine WL.freezeT 115 enc_api_Ins ([(⟨21, 0, 0⟩ : T_api_Ins)] : List T_api_Ins) rfl rfl rfl rfl ?_
  refine WL.run 1 tt_ok sg0 rfl rfl trivial ?_
  refine WL.eff 117 tt_ok et_ok eg0 rfl rfl rfl trivial ?_
  refine WL.freezeT 117 enc_api_Func ([(⟨0, 0, ([(⟨0, 0, 0⟩ : T_api_Ins), (⟨0, 0, 0⟩ : T_api_Ins), (⟨3, 0, 0⟩ : T_api_Ins), (⟨21, 0, 0⟩ : T_api_Ins)] : List T_api_Ins)⟩ : T_api_Func), (⟨0, 0, ([(⟨21, 0, 0⟩ : T_api_Ins)] : List T_api_Ins)⟩ : T_api_Func)] : List T_api_Func) rfl rfl rfl rfl ?_
  refine WL.run 1 tt_ok sg0 rfl rfl trivial ?_
  refine WL.alloc 101 tt_ok rfl rfl rfl ?_
  refine WL.eff 0 tt_ok et_ok eg0 rfl rfl rfl trivial ?_
  refine WL.nil ?_
  refine QT.n ?_
  refine WC.seq ?_
  refine WC.region ?_
  refine WL.run 1 tt_ok sg0 rfl rfl trivial ?_
  refine WL.le 20 (.agg [slT enc_api_Decl [], slT enc_sl_sl_api_Need [], slT enc_api_Func ([(⟨0, 0, ([(⟨0, 0, 0⟩ : T_api_Ins), (⟨0, 0, 0⟩ : T_api_Ins), (⟨3, 0, 0⟩ : T_api_Ins), (⟨21, 0, 0⟩ : T_api_Ins)] : List T_api_Ins)⟩ : T_api_Func), (⟨0, 0, ([(⟨21, 0, 0⟩ : T_api_Ins)] : List T_api_Ins)⟩ : T_api_Func)] : List T_api_Func)]) rfl (Le.agg (.cons (Le.nilT enc_api_Decl) (.cons (Le.nilT enc_sl_sl_api_Need) (.cons .rfl' .nil)))) ?_
  obtain ⟨x1, hx1, H⟩ := of_bind H
  refine WL.call [] (depth_Of_0 _ _ hx1) depth_Of_f rfl rfl trivial rfl rfl rfl ?_
  refine WL.run 7 tt_ok sg0 rfl rfl trivial ?_
  refine WL.nil ?_
  refine QT.n ?_
  refine WC.seq ?_
  refine WC.region ?_
  refine WL.run 1 tt_ok sg0 rfl rfl trivial ?_
  refine WL.le 26 (.agg [slT enc_api_Decl [], slT enc_sl_sl_api_Need [], slT enc_api_Func ([(⟨0, 0, ([(⟨0, 0, 0⟩ : T_api_Ins), (⟨0, 0, 0⟩ : T_api_Ins), (⟨3, 0, 0⟩ : T_api_Ins), (⟨21, 0, 0⟩ : T_api_Ins)] : List T_api_Ins)⟩ : T_api_Func), (⟨0, 0, ([(⟨21, 0, 0⟩ : T_api_Ins)] : List T_api_Ins)⟩ : T_api_Func)] : List T_api_Func)]) rfl (Le.agg (.cons (Le.nilT enc_api_Decl) (.cons (Le.nilT enc_sl_sl_api_Need) (.cons .rfl' .nil)))) ?_
  obtain ⟨x2, hx2, H⟩ := of_bind H
  refine WL.call [] (depth_Of_0 _ _ hx2) depth_Of_f rfl rfl trivial rfl rfl rfl ?_
  refine WL.run 7 tt_ok sg0 rfl rfl trivial ?_
  refine WL.nil ?_
  refine QT.n ?_
  refine WC.seq ?_
  refine WC.region ?_
  refine WL.run 4 tt_ok sg0 rfl rfl trivial ?_
  obtain ⟨g3, H⟩ := of_needS H
  refine WL.sect 4 3 true tt_ok sg0 rfl rfl (fun hb => ⟨⟨(nIn_ok (g3 hb)).1, (nIn_ok (g3 hb)).2, rfl⟩, trivial⟩) ?_
  refine WL.run 2 tt_ok sg0 rfl rfl ⟨by first | exact id | exact fun h => by rw [h]; rfl | simp_all, trivial⟩ ?_
  obtain ⟨g4, H⟩ := of_needS H
  refine WL.sect 4 9 true tt_ok sg0 rfl rfl (fun hb => ⟨⟨(nIn_ok (g4 hb)).1, (nIn_ok (g4 hb)).2, rfl⟩, trivial⟩) ?_
  refine WL.run 2 tt_ok sg0 rfl rfl ⟨by first | exact id | exact fun h => by rw [h]; rfl | simp_all, trivial⟩ ?_
  refine WL.sect 2 15 true tt_ok sg0 rfl rfl (fun _ => trivial) ?_
  refine WL.run 2 tt_ok sg0 rfl rfl ⟨by first | exact id | exact fun h => by rw [h]; rfl | simp_all, trivial⟩ ?_
  refine WL.sect 2 19 true tt_ok sg0 rfl rfl (fun _ => trivial) ?_
  refine WL.run 2 tt_ok sg0 rfl rfl ⟨by first | exact id | exact fun h => by rw [h]; rfl | simp_all, trivial⟩ ?_
  refine WL.sect 2 23 true tt_ok sg0 rfl rfl (fun _ => trivial) ?_
  refine WL.run 2 tt_ok sg0 rfl rfl ⟨by first | exact id | exact fun h => by rw [h]; rfl | simp_all, trivial⟩ ?_
  obtain ⟨x5, hx5, H⟩ := of_bind H
  refine WL.sect 3 27 true tt_ok [PSig.at' depth_Most_f (((((((iEq (x1.1.length : Int) 4) && (iEq (x1.1.getD (2 : Int).toNat default) 2)) && (iEq (x1.1.getD (3 : Int).toNat default) 1)) && (iEq x1.2.2 0)) && (iEq x2.2.1 0)) && (iEq x2.2.2 2)) = true) rfl (fun hb => depth_Most_0 _ (of_t hx5 hb))] rfl rfl (fun hb => ⟨⟨hb, rfl⟩, trivial⟩) ?_
  refine WL.run 2 tt_ok sg0 rfl rfl ⟨by first | exact id | exact fun h => by rw [h]; rfl | simp_all, trivial⟩ ?_
  refine WL.nil ?_
  refine QT.n ?_
  refine WC.ret ?_
  cases H
  exact Ends.auto rfl rfl rfl trivial
theorem law11_lives_f : hasFunc Try.prog 6 Try.f6 := ⟨Try.func6, rfl, by kernel_rfl⟩

/-! ### logjam/logjamlaw11.DepthMost -/
theorem law11_DepthMost_0 (a0 : List Int) {r : Bool} (H : law11_DepthMost a0 = some r) : LJ.Spec Try.prog 4 [.d (slT enc_i64 a0)] [] (.d (.bool r)) [] := by
  refine LJ.Spec.code Try.func4 rfl 48 rfl rfl [] rfl fun w0 F0 S0 B0 => ?_
  unfold law11_DepthMost at H
  refine WC.seq ?_
  refine WC.region ?_
  refine WL.run 1 tt_ok sg0 rfl rfl trivial ?_
  refine WL.nil ?_
  refine QT.n ?_
  refine WC.seq ?_
  refine WC.seq ?_
  refine WC.region ?_
  refine WL.run 3 tt_ok sg0 rfl rfl trivial ?_
  refine WL.nil ?_
  refine QT.n ?_
  refine WC.cond rfl (fun h1 => ?_) (fun h1 => ?_)
  · replace H := of_t H h1
    refine WC.region ?_
    refine WL.run 1 tt_ok sg0 rfl rfl trivial ?_
    obtain ⟨g2, H⟩ := of_need H
    refine WL.yv (LJ.Y.sliceT enc_i64 a0 tt_ok rfl (fun _ => rfl) none (some (.const (.int .i64 300))) (0 : Int) (300 : Int) rfl rfl ⟨_, rfl⟩ rfl rfl (nSl_ok g2)) rfl rfl rfl ?_
    refine WL.run 1 tt_ok sg0 rfl rfl trivial ?_
    refine WL.nil ?_
    refine QT.n ?_
    refine WC.seq ?_
    refine WC.region ?_
    refine WL.eff 111 tt_ok et_ok eg0 rfl rfl rfl trivial ?_
    refine WL.run 1 tt_ok sg0 rfl rfl trivial ?_
    refine WL.row 111 (([] : List Int).map enc_i64) rfl rfl rfl ?_
    obtain ⟨g3, H⟩ := of_need H
    refine WL.appT enc_i64 ([] : List Int) ((a0.take (300 : Int).toNat).drop (0 : Int).toNat) tt_ok et_ok rfl rfl (fun _ => rfl) (fun _ => rfl) rfl rfl rfl rfl (nCap_ok g3) rfl rfl rfl rfl rfl ?_
    refine WL.freezeT 111 enc_i64 (([] : List Int) ++ ((a0.take (300 : Int).toNat).drop (0 : Int).toNat)) rfl rfl rfl rfl ?_
    obtain ⟨x4, hx4, H⟩ := of_bind H
    refine WL.call [] (depth_Most_0 _ hx4) depth_Most_f rfl rfl trivial rfl rfl rfl ?_
    refine WL.run 2 tt_ok sg0 rfl rfl trivial ?_
    refine WL.nil ?_
    refine QT.n ?_
    refine WC.seq ?_
    refine WC.seq ?_
    refine WC.region ?_
    refine WL.run 1 tt_ok sg0 rfl rfl trivial ?_
    refine WL.nil ?_
    refine QT.n ?_
    refine WC.block ?_
    refine WC.loop (ι := {x : Nat × (Bool × Int) // law11_DepthMost_l6 a0 x4 x.1 x.2 = some r}) (fun x => [(0, .d (slT enc_i64 ((a0.take (300 : Int).toNat).drop (0 : Int).toNat))), (3, .d (.int .i64 x4)), (4, .d (.bool x.1.2.1)), (5, .d (.int .i64 x.1.2.2))]) (fun x => []) (fun x => x.1.1) ⟨(fuel, (false, 0)), H⟩ (Less.mk' ⟨rfl, rfl, rfl, rfl, trivial⟩ trivial) fun x => ?_
    obtain ⟨⟨k6, s5⟩, H⟩ := x
    rcases k6 with _ | k6
    · exact of_none H
    rw [law11_DepthMost_l6] at H
    refine WC.seq ?_
    refine WC.seq ?_
    refine WC.region ?_
    refine WL.run 4 tt_ok sg0 rfl rfl trivial ?_
    refine WL.nil ?_
    refine QT.n ?_
    refine WC.cond rfl (fun h7 => ?_) (fun h7 => ?_)
    · replace H := of_t H h7
      refine WC.skip ?_
      refine QT.n ?_
      refine WC.seq ?_
      refine WC.block ?_
      refine WC.seq ?_
      refine WC.seq ?_
      refine WC.region ?_
      obtain ⟨g8, H⟩ := of_need H
      refine WL.run 6 tt_ok sg0 rfl rfl ⟨⟨(nIn_ok g8).1, (nIn_ok g8).2, rfl⟩, trivial⟩ ?_
      refine WL.nil ?_
      refine QT.n ?_
      refine WC.cond rfl (fun h9 => ?_) (fun h9 => ?_)
      · replace H := of_t H h9
        refine WC.seq ?_
        refine WC.region ?_
        refine WL.run 1 tt_ok sg0 rfl rfl trivial ?_
        refine WL.nil ?_
        refine QT.n ?_
        refine WC.ret ?_
        refine QT.r (QB.r (QT.r (QT.r (QB.r (QT.r ?_)))))
        cases H
        exact Ends.auto rfl rfl rfl trivial
      replace H := of_f H h9
      refine WC.skip ?_
      refine QT.n ?_
      refine WC.region ?_
      refine WL.run 2 tt_ok sg0 rfl rfl trivial ?_
      obtain ⟨g10, H⟩ := of_needS H
      refine WL.sect 6 1 false tt_ok sg0 rfl rfl (fun hb => ⟨⟨(nIn_ok (g10 hb)).1, (nIn_ok (g10 hb)).2, rfl⟩, trivial⟩) ?_
      refine WL.run 2 tt_ok sg0 rfl rfl ⟨by first | exact id | exact fun h => by rw [h]; rfl | simp_all, trivial⟩ ?_
      refine WL.nil ?_
      refine QB.n (QT.n ?_)
      refine WC.region ?_
      refine WL.run 3 tt_ok sg0 rfl rfl trivial ?_
      refine WL.nil ?_
      refine QT.n ?_
      exact ⟨⟨(k6, ((s5.1 || (iEq (((a0.take (300 : Int).toNat).drop (0 : Int).toNat).getD s5.2.toNat default) x4)), IntKind.i64.wrap (s5.2 + 1))), H⟩, Nat.lt_succ_self _, Less.mk' ⟨rfl, rfl, rfl, rfl, trivial⟩ trivial⟩
    replace H := of_f H h7
    refine WC.exit ?_
    refine QT.x (QT.x (QB.hit (QT.n ?_)))
    refine WC.seq ?_
    refine WC.region ?_
    refine WL.run 3 tt_ok sg0 rfl rfl trivial ?_
    refine WL.sect 2 2 true tt_ok sg0 rfl rfl (fun _ => trivial) ?_
    refine WL.sect 2 4 false tt_ok sg0 rfl rfl (fun _ => trivial) ?_
    refine WL.sect 1 2 true tt_ok sg0 rfl rfl (fun hb => ⟨by first | exact id | exact ⟨hb, fun h => by rw [hb, h]; rfl⟩ | exact ⟨hb, id⟩ | exact fun h => by rw [hb, h]; rfl | exact fun h => by rw [h]; rfl | simp_all, trivial⟩) ?_
    refine WL.run 2 tt_ok sg0 rfl rfl ⟨by first | exact id | exact fun h => by rw [h]; rfl | simp_all, trivial⟩ ?_
    obtain ⟨x11, hx11, H⟩ := of_bind H
    refine WL.sect 1 9 true tt_ok [PSig.at' law11_lives_f (((iLe 0 x4) && (s5.1 || (iEq x4 0))) = true) rfl (fun hb => law11_lives_0  (of_t hx11 hb))] rfl rfl (fun hb => ⟨⟨hb, rfl⟩, trivial⟩) ?_
    refine WL.run 2 tt_ok sg0 rfl rfl ⟨by first | exact id | exact fun h => by rw [h]; rfl | simp_all, trivial⟩ ?_
    refine WL.nil ?_
    refine QT.n ?_
    refine WC.ret ?_
    cases H
    exact Ends.auto rfl rfl rfl trivial
  replace H := of_f H h1
  refine WC.skip ?_
  refine QT.n ?_
  refine WC.seq ?_
  refine WC.region ?_
  refine WL.eff 111 tt_ok et_ok eg0 rfl rfl rfl trivial ?_
  refine WL.run 1 tt_ok sg0 rfl rfl trivial ?_
  refine WL.row 111 (([] : List Int).map enc_i64) rfl rfl rfl ?_
  obtain ⟨g12, H⟩ := of_need H
  refine WL.appT enc_i64 ([] : List Int) a0 tt_ok et_ok rfl rfl (fun _ => rfl) (fun _ => rfl) rfl rfl rfl rfl (nCap_ok g12) rfl rfl rfl rfl rfl ?_
  refine WL.freezeT 111 enc_i64 (([] : List Int) ++ a0) rfl rfl rfl rfl ?_
  obtain ⟨x13, hx13, H⟩ := of_bind H
  refine WL.call [] (depth_Most_0 _ hx13) depth_Most_f rfl rfl trivial rfl rfl rfl ?_
  refine WL.run 2 tt_ok sg0 rfl rfl trivial ?_
  refine WL.nil ?_
  refine QT.n ?_
  refine WC.seq ?_
  refine WC.seq ?_
  refine WC.region ?_
  refine WL.run 1 tt_ok sg0 rfl rfl trivial ?_
  refine WL.nil ?_
  refine QT.n ?_
  refine WC.block ?_
  refine WC.loop (ι := {x : Nat × (Bool × Int) // law11_DepthMost_l15 a0 x13 x.1 x.2 = some r}) (fun x => [(0, .d (slT enc_i64 a0)), (3, .d (.int .i64 x13)), (4, .d (.bool x.1.2.1)), (5, .d (.int .i64 x.1.2.2))]) (fun x => []) (fun x => x.1.1) ⟨(fuel, (false, 0)), H⟩ (Less.mk' ⟨rfl, rfl, rfl, rfl, trivial⟩ trivial) fun x => ?_
  obtain ⟨⟨k15, s14⟩, H⟩ := x
  rcases k15 with _ | k15
  · exact of_none H
  rw [law11_DepthMost_l15] at H
  refine WC.seq ?_
  refine WC.seq ?_
  refine WC.region ?_
  refine WL.run 4 tt_ok sg0 rfl rfl trivial ?_
  refine WL.nil ?_
  refine QT.n ?_
  refine WC.cond rfl (fun h16 => ?_) (fun h16 => ?_)
  · replace H := of_t H h16
    refine WC.skip ?_
    refine QT.n ?_
    refine WC.seq ?_
    refine WC.block ?_
    refine WC.seq ?_
    refine WC.seq ?_
    refine WC.region ?_
    obtain ⟨g17, H⟩ := of_need H
    refine WL.run 6 tt_ok sg0 rfl rfl ⟨⟨(nIn_ok g17).1, (nIn_ok g17).2, rfl⟩, trivial⟩ ?_
    refine WL.nil ?_
    refine QT.n ?_
    refine WC.cond rfl (fun h18 => ?_) (fun h18 => ?_)
    · replace H := of_t H h18
      refine WC.seq ?_
      refine WC.region ?_
      refine WL.run 1 tt_ok sg0 rfl rfl trivial ?_
      refine WL.nil ?_
      refine QT.n ?_
      refine WC.ret ?_
      refine QT.r (QB.r (QT.r (QT.r (QB.r (QT.r ?_)))))
      cases H
      exact Ends.auto rfl rfl rfl trivial
    replace H := of_f H h18
    refine WC.skip ?_
    refine QT.n ?_
    refine WC.region ?_
    refine WL.run 2 tt_ok sg0 rfl rfl trivial ?_
    obtain ⟨g19, H⟩ := of_needS H
    refine WL.sect 6 1 false tt_ok sg0 rfl rfl (fun hb => ⟨⟨(nIn_ok (g19 hb)).1, (nIn_ok (g19 hb)).2, rfl⟩, trivial⟩) ?_
    refine WL.run 2 tt_ok sg0 rfl rfl ⟨by first | exact id | exact fun h => by rw [h]; rfl | simp_all, trivial⟩ ?_
    refine WL.nil ?_
    refine QB.n (QT.n ?_)
    refine WC.region ?_
    refine WL.run 3 tt_ok sg0 rfl rfl trivial ?_
    refine WL.nil ?_
    refine QT.n ?_
    exact ⟨⟨(k15, ((s14.1 || (iEq (a0.getD s14.2.toNat default) x13)), IntKind.i64.wrap (s14.2 + 1))), H⟩, Nat.lt_succ_self _, Less.mk' ⟨rfl, rfl, rfl, rfl, trivial⟩ trivial⟩
  replace H := of_f H h16
  refine WC.exit ?_
  refine QT.x (QT.x (QB.hit (QT.n ?_)))
  refine WC.seq ?_
  refine WC.region ?_
  refine WL.run 3 tt_ok sg0 rfl rfl trivial ?_
  refine WL.sect 2 2 true tt_ok sg0 rfl rfl (fun _ => trivial) ?_
  refine WL.sect 2 4 false tt_ok sg0 rfl rfl (fun _ => trivial) ?_
  refine WL.sect 1 2 true tt_ok sg0 rfl rfl (fun hb => ⟨by first | exact id | exact ⟨hb, fun h => by rw [hb, h]; rfl⟩ | exact ⟨hb, id⟩ | exact fun h => by rw [hb, h]; rfl | exact fun h => by rw [h]; rfl | simp_all, trivial⟩) ?_
  refine WL.run 2 tt_ok sg0 rfl rfl ⟨by first | exact id | exact fun h => by rw [h]; rfl | simp_all, trivial⟩ ?_
  obtain ⟨x20, hx20, H⟩ := of_bind H
  refine WL.sect 1 9 true tt_ok [PSig.at' law11_lives_f (((iLe 0 x13) && (s14.1 || (iEq x13 0))) = true) rfl (fun hb => law11_lives_0  (of_t hx20 hb))] rfl rfl (fun hb => ⟨⟨hb, rfl⟩, trivial⟩) ?_
  refine WL.run 2 tt_ok sg0 rfl rfl ⟨by first | exact id | exact fun h => by rw [h]; rfl | simp_all, trivial⟩ ?_
  refine WL.nil ?_
  refine QT.n ?_
  refine WC.ret ?_
  cases H
  exact Ends.auto rfl rfl rfl trivial
theorem law11_DepthMost_f : hasFunc Try.prog 4 Try.f4 := ⟨Try.func4, rfl, by kernel_rfl⟩

end Go.Proofs.Ytmagenmamdgjaaa.W
