/- Each Go function comes to what its plain function gives, where that gives something. -/
import Derived.Test.YtdgnolnlcflmmaaDoorPF
import Derived.Test.YtdgnolnlcflmmaaDoorWF1
import Derived.Test.YtdgnolnlcflmmaaDoorXBld
namespace Go.Proofs.YtdgnolnlcflmmaaDoor.W
open Go Go.RowKit LJ
set_option linter.unusedVariables false
set_option linter.unusedSimpArgs false
set_option maxRecDepth 10000
/-! ### logjam/logjamref09.Read -/
theorem ref09_Read_0 (a0 : List T_api_Decl) (a1 : T_ref01_R) {r : (List (List T_api_Need)) × T_ref01_R × Int} (H : ref09_Read a0 a1 = some r) : LJ.Spec Tryd.prog 35 [.d (slT enc_api_Decl a0), .d (.agg [.str a1.S, .int .i64 a1.At, .int .i64 a1.Err])] [] (.tup [.d (slT enc_sl_api_Need r.1), .d (.agg [.str r.2.1.S, .int .i64 r.2.1.At, .int .i64 r.2.1.Err]), .d (.int .i64 r.2.2)]) [] := by
  refine LJ.Spec.code Tryd.func35 rfl 127 rfl rfl [] rfl fun w0 F0 S0 B0 => ?_
  unfold ref09_Read at H
  refine WC.seq ?_
  refine WC.region ?_
  refine WL.eff 103 tt_ok et_ok eg0 rfl rfl rfl trivial ?_
  refine WL.run 1 tt_ok sg0 rfl rfl trivial ?_
  refine WL.alloc 105 tt_ok rfl rfl rfl ?_
  refine WL.run 1 tt_ok sg0 rfl rfl trivial ?_
  refine WL.nil ?_
  refine QT.n ?_
  refine WC.seq ?_
  refine WC.region ?_
  refine WL.run 1 tt_ok sg0 rfl rfl trivial ?_
  obtain ⟨x1, hx1, H⟩ := of_bind H
  refine WL.call [] (ref01_Number_0 _ hx1) ref01_Number_f rfl rfl trivial rfl rfl rfl ?_
  refine WL.run 3 tt_ok sg0 rfl rfl trivial ?_
  refine WL.alloc 108 tt_ok rfl rfl rfl ?_
  refine WL.run 1 tt_ok sg0 rfl rfl trivial ?_
  refine WL.eff 0 tt_ok et_ok eg0 rfl rfl rfl trivial ?_
  refine WL.nil ?_
  refine QT.n ?_
  refine WC.seq ?_
  refine WC.seq ?_
  refine WC.region ?_
  refine WL.run 2 tt_ok sg0 rfl rfl trivial ?_
  refine WL.nil ?_
  refine QT.n ?_
  refine WC.cond rfl (fun h2 => ?_) (fun h2 => ?_)
  · replace H := of_t H h2
    refine WC.seq ?_
    refine WC.heldP (.one 0 true (.one 1 true (.one 2 false (.one 3 true .done)))) [103, 105, 108] [103, 108] rfl (by kernel_rfl) rfl (by kernel_rfl) rfl rfl (fun _ h => h) rfl rfl rfl (fun _ _ _ h => h) fun FK NK wK K => ?_
    refine WH.run 2 tt_ok rfl rfl rfl rfl trivial ?_
    refine WH.eff 0 tt_ok et_ok rfl rfl rfl rfl trivial rfl rfl ?_
    refine WH.run 1 tt_ok rfl rfl rfl rfl trivial ?_
    refine WH.nil rfl ?_
    refine QT.n ?_
    refine WC.nilT 4 enc_sl_api_Need rfl ?_
    refine WC.ret ?_
    refine QT.r ?_
    cases H
    exact Ends.autoC tt_ok rfl rfl rfl trivial
  replace H := of_f H h2
  refine WC.skip ?_
  refine QT.n ?_
  refine WC.seq ?_
  refine WC.region ?_
  refine WL.eff 131 tt_ok et_ok eg0 rfl rfl rfl trivial ?_
  refine WL.run 1 tt_ok sg0 rfl rfl trivial ?_
  refine WL.nil ?_
  refine QT.n ?_
  refine WC.seq ?_
  refine WC.seq ?_
  refine WC.region ?_
  refine WL.run 1 tt_ok sg0 rfl rfl trivial ?_
  refine WL.nil ?_
  refine QT.n ?_
  refine WC.block ?_
  refine WC.loop (ι := {x : Nat × (Int × ByteArray × Int × Int × (List (List T_api_Need))) // ref09_Read_l4 a0 x1 x.1 x.2 = some r}) (fun x => [(0, .d (slT enc_api_Decl a0)), (5, .ptr 105 0), (7, .d (.int .u64 x1.1)), (8, .ptr 108 0), (9, .own 131), (10, .d (.int .i64 x.1.2.1))]) (fun x => [(105, .box 71 [.d (.str ByteArray.empty), .d (.int .i64 0), .d (.int .i64 0)]), (108, .box 71 [.d (.str x.1.2.2.1), .d (.int .i64 x.1.2.2.2.1), .d (.int .i64 x.1.2.2.2.2.1)]), (131, .row 51 1 (x.1.2.2.2.2.2.map enc_sl_api_Need))]) (fun x => x.1.1) ⟨(fuel, (0, x1.2.S, x1.2.At, x1.2.Err, ([] : List (List T_api_Need)))), H⟩ (Less.mk' ⟨rfl, rfl, rfl, rfl, rfl, rfl, trivial⟩ ⟨rfl, rfl, rfl, trivial⟩) fun x => ?_
  obtain ⟨⟨k4, s3⟩, H⟩ := x
  rcases k4 with _ | k4
  · exact of_none H
  rw [ref09_Read_l4] at H
  refine WC.seq ?_
  refine WC.seq ?_
  refine WC.region ?_
  refine WL.run 5 tt_ok sg0 rfl rfl trivial ?_
  refine WL.sect 3 4 true tt_ok sg0 rfl rfl (fun _ => trivial) ?_
  refine WL.run 1 tt_ok sg0 rfl rfl ⟨by first | exact id | exact fun h => by rw [h]; rfl | simp_all, trivial⟩ ?_
  refine WL.nil ?_
  refine QT.n ?_
  refine WC.cond rfl (fun h5 => ?_) (fun h5 => ?_)
  · replace H := of_t H h5
    refine WC.skip ?_
    refine QT.n ?_
    obtain ⟨K6, hK6, H⟩ := of_withK H
    refine WC.cut (fun E m => ∃ s7 : ByteArray × Int × Int × (List (List T_api_Need)), K6 s7 = some r ∧ LessW E m [(0, .d (slT enc_api_Decl a0)), (5, .ptr 105 0), (7, .d (.int .u64 x1.1)), (8, .ptr 108 0), (9, .own 131), (10, .d (.int .i64 s3.1))] [(105, .box 71 [.d (.str ByteArray.empty), .d (.int .i64 0), .d (.int .i64 0)]), (108, .box 71 [.d (.str s7.1), .d (.int .i64 s7.2.1), .d (.int .i64 s7.2.2.1)]), (131, .row 51 1 (s7.2.2.2.map enc_sl_api_Need))]) ?_ ?_
    · refine WC.block ?_
      refine WC.seq ?_
      refine WC.region ?_
      refine WL.run 1 tt_ok sg0 rfl rfl trivial ?_
      obtain ⟨x8, hx8, H⟩ := of_bind H
      refine WL.call [] (ref01_Number_0 _ hx8) ref01_Number_f rfl rfl trivial rfl rfl rfl ?_
      refine WL.run 3 tt_ok sg0 rfl rfl trivial ?_
      refine WL.alloc 112 tt_ok rfl rfl rfl ?_
      refine WL.run 1 tt_ok sg0 rfl rfl trivial ?_
      refine WL.eff 0 tt_ok et_ok eg0 rfl rfl rfl trivial ?_
      refine WL.nil ?_
      refine QT.n ?_
      refine WC.seq ?_
      refine WC.seq ?_
      refine WC.region ?_
      refine WL.run 2 tt_ok sg0 rfl rfl trivial ?_
      refine WL.nil ?_
      refine QT.n ?_
      refine WC.cond rfl (fun h9 => ?_) (fun h9 => ?_)
      · replace H := of_t H h9
        refine WC.seq ?_
        refine WC.heldP (.one 0 true (.one 1 true (.one 2 false (.one 3 true .done)))) [105, 108, 112] [108, 112] rfl (by kernel_rfl) rfl (by kernel_rfl) rfl rfl (fun _ h => h) rfl rfl rfl (fun _ _ _ h => h) fun FK NK wK K => ?_
        refine WH.run 2 tt_ok rfl rfl rfl rfl trivial ?_
        refine WH.eff 0 tt_ok et_ok rfl rfl rfl rfl trivial rfl rfl ?_
        refine WH.run 1 tt_ok rfl rfl rfl rfl trivial ?_
        refine WH.nil rfl ?_
        refine QT.n ?_
        refine WC.nilT 4 enc_sl_api_Need rfl ?_
        refine WC.ret ?_
        refine QT.r (QB.r (QT.r (QT.r (QB.r (QT.r ?_)))))
        cases H
        exact Ends.autoC tt_ok rfl rfl rfl trivial
      replace H := of_f H h9
      refine WC.skip ?_
      refine QT.n ?_
      refine WC.seq ?_
      refine WC.region ?_
      refine WL.eff 151 tt_ok et_ok eg0 rfl rfl rfl trivial ?_
      refine WL.run 1 tt_ok sg0 rfl rfl trivial ?_
      refine WL.nil ?_
      refine QT.n ?_
      refine WC.seq ?_
      refine WC.seq ?_
      refine WC.region ?_
      refine WL.run 1 tt_ok sg0 rfl rfl trivial ?_
      refine WL.nil ?_
      refine QT.n ?_
      refine WC.block ?_
      refine WC.loop (ι := {x : Nat × (Int × ByteArray × Int × Int × (List T_api_Need)) // ref09_Read_l11 s3 K6 x8 x.1 x.2 = some r}) (fun x => [(0, .d (slT enc_api_Decl a0)), (5, .ptr 105 0), (7, .d (.int .u64 x1.1)), (8, .ptr 108 0), (9, .own 131), (10, .d (.int .i64 s3.1)), (11, .d (.int .u64 x8.1)), (12, .ptr 112 0), (13, .own 151), (14, .d (.int .i64 x.1.2.1))]) (fun x => [(105, .box 71 [.d (.str ByteArray.empty), .d (.int .i64 0), .d (.int .i64 0)]), (108, .box 71 [.d (.str s3.2.1), .d (.int .i64 s3.2.2.1), .d (.int .i64 s3.2.2.2.1)]), (112, .box 71 [.d (.str x.1.2.2.1), .d (.int .i64 x.1.2.2.2.1), .d (.int .i64 x.1.2.2.2.2.1)]), (131, .row 51 1 (s3.2.2.2.2.map enc_sl_api_Need)), (151, .row 50 3 (x.1.2.2.2.2.2.map enc_api_Need))]) (fun x => x.1.1) ⟨(fuel, (0, x8.2.S, x8.2.At, x8.2.Err, ([] : List T_api_Need))), H⟩ (Less.mk' ⟨rfl, rfl, rfl, rfl, rfl, rfl, rfl, rfl, rfl, rfl, trivial⟩ ⟨rfl, rfl, rfl, rfl, rfl, trivial⟩) fun x => ?_
      obtain ⟨⟨k11, s10⟩, H⟩ := x
      rcases k11 with _ | k11
      · exact of_none H
      rw [ref09_Read_l11] at H
      refine WC.seq ?_
      refine WC.seq ?_
      refine WC.region ?_
      refine WL.run 5 tt_ok sg0 rfl rfl trivial ?_
      refine WL.sect 3 4 true tt_ok sg0 rfl rfl (fun _ => trivial) ?_
      refine WL.run 1 tt_ok sg0 rfl rfl ⟨by first | exact id | exact fun h => by rw [h]; rfl | simp_all, trivial⟩ ?_
      refine WL.nil ?_
      refine QT.n ?_
      refine WC.cond rfl (fun h12 => ?_) (fun h12 => ?_)
      · replace H := of_t H h12
        refine WC.skip ?_
        refine QT.n ?_
        refine WC.seq ?_
        refine WC.block ?_
        refine WC.seq ?_
        refine WC.region ?_
        refine WL.run 1 tt_ok sg0 rfl rfl trivial ?_
        obtain ⟨x13, hx13, H⟩ := of_bind H
        refine WL.call [] (ref01_Byte_0 _ hx13) ref01_Byte_f rfl rfl trivial rfl rfl rfl ?_
        refine WL.run 3 tt_ok sg0 rfl rfl trivial ?_
        refine WL.alloc 116 tt_ok rfl rfl rfl ?_
        refine WL.run 1 tt_ok sg0 rfl rfl trivial ?_
        refine WL.eff 0 tt_ok et_ok eg0 rfl rfl rfl trivial ?_
        refine WL.nil ?_
        refine QT.n ?_
        refine WC.seq ?_
        refine WC.seq ?_
        refine WC.region ?_
        refine WL.run 4 tt_ok sg0 rfl rfl trivial ?_
        refine WL.sect 3 3 true tt_ok sg0 rfl rfl (fun _ => trivial) ?_
        refine WL.sect 2 6 false tt_ok sg0 rfl rfl (fun _ => trivial) ?_
        refine WL.sect 1 3 true tt_ok sg0 rfl rfl (fun hb => ⟨by first | exact id | exact ⟨hb, fun h => by rw [hb, h]; rfl⟩ | exact ⟨hb, id⟩ | exact fun h => by rw [hb, h]; rfl | exact fun h => by rw [h]; rfl | simp_all, trivial⟩) ?_
        refine WL.run 1 tt_ok sg0 rfl rfl ⟨by first | exact id | exact fun h => by rw [h]; rfl | simp_all, trivial⟩ ?_
        refine WL.nil ?_
        refine QT.n ?_
        refine WC.cond rfl (fun h14 => ?_) (fun h14 => ?_)
        · replace H := of_t H h14
          refine WC.seq ?_
          refine WC.heldP (.one 0 true (.one 1 true (.one 2 false (.one 3 true .done)))) [105, 108, 112, 116] [108, 112, 116] rfl (by kernel_rfl) rfl (by kernel_rfl) rfl rfl (fun _ h => h) rfl rfl rfl (fun _ _ _ h => h) fun FK NK wK K => ?_
          refine WH.run 2 tt_ok rfl rfl rfl rfl trivial ?_
          refine WH.eff 0 tt_ok et_ok rfl rfl rfl rfl trivial rfl rfl ?_
          refine WH.run 1 tt_ok rfl rfl rfl rfl trivial ?_
          refine WH.nil rfl ?_
          refine QT.n ?_
          refine WC.nilT 4 enc_sl_api_Need rfl ?_
          refine WC.ret ?_
          refine QT.r (QB.r (QT.r (QT.r (QB.r (QT.r (QB.r (QT.r (QT.r (QB.r (QT.r ?_))))))))))
          cases H
          exact Ends.autoC tt_ok rfl rfl rfl trivial
        replace H := of_f H h14
        refine WC.skip ?_
        refine QT.n ?_
        refine WC.seq ?_
        refine WC.region ?_
        refine WL.run 1 tt_ok sg0 rfl rfl trivial ?_
        obtain ⟨x15, hx15, H⟩ := of_bind H
        refine WL.call [] (ref01_Number_0 _ hx15) ref01_Number_f rfl rfl trivial rfl rfl rfl ?_
        refine WL.run 3 tt_ok sg0 rfl rfl trivial ?_
        refine WL.alloc 118 tt_ok rfl rfl rfl ?_
        refine WL.run 1 tt_ok sg0 rfl rfl trivial ?_
        refine WL.eff 0 tt_ok et_ok eg0 rfl rfl rfl trivial ?_
        refine WL.nil ?_
        refine QT.n ?_
        refine WC.seq ?_
        refine WC.region ?_
        refine WL.run 2 tt_ok sg0 rfl rfl trivial ?_
        refine WL.yv (LJ.Y.min rfl rfl rfl) rfl rfl rfl ?_
        refine WL.run 2 tt_ok sg0 rfl rfl trivial ?_
        refine WL.alloc 119 tt_ok rfl rfl rfl ?_
        refine WL.eff 0 tt_ok et_ok eg0 rfl rfl rfl trivial ?_
        refine WL.nil ?_
        refine QT.n ?_
        refine WC.seq ?_
        refine WC.seq ?_
        refine WC.region ?_
        refine WL.run 2 tt_ok sg0 rfl rfl trivial ?_
        refine WL.nil ?_
        refine QT.n ?_
        refine WC.cond rfl (fun h16 => ?_) (fun h16 => ?_)
        · replace H := of_t H h16
          refine WC.seq ?_
          refine WC.region ?_
          refine WL.run 1 tt_ok sg0 rfl rfl trivial ?_
          obtain ⟨x17, hx17, H⟩ := of_bind H
          refine WL.call [] (ref01_Number_0 _ hx17) ref01_Number_f rfl rfl trivial rfl rfl rfl ?_
          refine WL.run 3 tt_ok sg0 rfl rfl trivial ?_
          refine WL.alloc 121 tt_ok rfl rfl rfl ?_
          refine WL.run 1 tt_ok sg0 rfl rfl trivial ?_
          refine WL.eff 0 tt_ok et_ok eg0 rfl rfl rfl trivial ?_
          refine WL.nil ?_
          refine QT.n ?_
          refine WC.heldP (.one 0 true (.one 1 true (.one 2 true (.one 3 true (.one 4 true (.one 5 false (.one 6 false .done))))))) [105, 108, 112, 116, 118, 119, 121] [105, 108, 112, 116, 121] rfl (by kernel_rfl) rfl (by kernel_rfl) rfl rfl (fun _ h => h) rfl rfl rfl (fun _ _ _ h => h) fun FK NK wK K => ?_
          refine WH.run 1 tt_ok rfl rfl rfl rfl trivial ?_
          refine WH.yv rfl (LJ.Y.min rfl rfl rfl) rfl rfl rfl ?_
          refine WH.run 3 tt_ok rfl rfl rfl rfl trivial ?_
          refine WH.eff 0 tt_ok et_ok rfl rfl rfl rfl trivial rfl rfl ?_
          refine WH.eff 0 tt_ok et_ok rfl rfl rfl rfl trivial rfl rfl ?_
          refine WH.nil rfl ?_
          refine QT.n ?_
          refine WC.heldP (.one 0 true (.one 1 true (.one 4 true (.one 2 false (.one 3 false (.one 5 true (.one 6 false .done))))))) [105, 108, 112, 116, 118, 119, 121] [105, 108, 116, 118, 119, 121] rfl (by kernel_rfl) rfl (by kernel_rfl) rfl rfl (fun _ h => h) rfl rfl rfl (fun _ _ _ h => h) fun FK NK wK K => ?_
          refine WH.mv rfl rfl rfl rfl rfl rfl rfl rfl rfl ?_
          refine WH.run 2 tt_ok rfl rfl rfl rfl trivial ?_
          refine WH.eff 204 tt_ok et_ok rfl rfl rfl rfl trivial rfl rfl ?_
          refine WH.freezeT 204 enc_api_Need ([(⟨x13.1, IntKind.i64.wrap (iMin x15.1 (2147483648 : Int)), IntKind.i64.wrap (iMin x17.1 (2147483648 : Int))⟩ : T_api_Need)] : List T_api_Need) rfl rfl rfl rfl ?_
          obtain ⟨g18, H⟩ := of_need H
          refine WH.appT enc_api_Need s10.2.2.2.2 ([(⟨x13.1, IntKind.i64.wrap (iMin x15.1 (2147483648 : Int)), IntKind.i64.wrap (iMin x17.1 (2147483648 : Int))⟩ : T_api_Need)] : List T_api_Need) tt_ok et_ok rfl rfl (fun _ => rfl) (fun _ => rfl) rfl rfl rfl rfl rfl (nCap_ok g18) rfl rfl rfl rfl rfl rfl rfl ?_
          refine WH.mv rfl rfl rfl rfl rfl rfl rfl rfl rfl ?_
          refine WH.eff 0 tt_ok et_ok rfl rfl rfl rfl trivial rfl rfl ?_
          refine WH.nil rfl ?_
          refine QB.n (QT.n ?_)
          refine WC.region ?_
          refine WL.run 3 tt_ok sg0 rfl rfl trivial ?_
          refine WL.nil ?_
          refine QT.n ?_
          exact ⟨⟨(k11, (IntKind.i64.wrap (s10.1 + 1), x17.2.S, x17.2.At, x17.2.Err, s10.2.2.2.2 ++ ([(⟨x13.1, IntKind.i64.wrap (iMin x15.1 (2147483648 : Int)), IntKind.i64.wrap (iMin x17.1 (2147483648 : Int))⟩ : T_api_Need)] : List T_api_Need))), H⟩, Nat.lt_succ_self _, Less.mk' ⟨rfl, rfl, rfl, rfl, rfl, rfl, rfl, rfl, rfl, rfl, trivial⟩ ⟨rfl, rfl, rfl, rfl, rfl, trivial⟩⟩
        replace H := of_f H h16
        refine WC.skip ?_
        refine QT.n ?_
        refine WC.heldP (.one 0 true (.one 1 true (.one 4 true (.one 2 false (.one 3 false (.one 5 true (.one 6 false .done))))))) [105, 108, 112, 116, 118, 119] [105, 108, 116, 118, 119] rfl (by kernel_rfl) rfl (by kernel_rfl) rfl rfl (fun _ h => h) rfl rfl rfl (fun _ _ _ h => h) fun FK NK wK K => ?_
        refine WH.mv rfl rfl rfl rfl rfl rfl rfl rfl rfl ?_
        refine WH.run 2 tt_ok rfl rfl rfl rfl trivial ?_
        refine WH.eff 204 tt_ok et_ok rfl rfl rfl rfl trivial rfl rfl ?_
        refine WH.freezeT 204 enc_api_Need ([(⟨x13.1, IntKind.i64.wrap (iMin x15.1 (2147483648 : Int)), 0⟩ : T_api_Need)] : List T_api_Need) rfl rfl rfl rfl ?_
        obtain ⟨g19, H⟩ := of_need H
        refine WH.appT enc_api_Need s10.2.2.2.2 ([(⟨x13.1, IntKind.i64.wrap (iMin x15.1 (2147483648 : Int)), 0⟩ : T_api_Need)] : List T_api_Need) tt_ok et_ok rfl rfl (fun _ => rfl) (fun _ => rfl) rfl rfl rfl rfl rfl (nCap_ok g19) rfl rfl rfl rfl rfl rfl rfl ?_
        refine WH.mv rfl rfl rfl rfl rfl rfl rfl rfl rfl ?_
        refine WH.eff 0 tt_ok et_ok rfl rfl rfl rfl trivial rfl rfl ?_
        refine WH.nil rfl ?_
        refine QB.n (QT.n ?_)
        refine WC.region ?_
        refine WL.run 3 tt_ok sg0 rfl rfl trivial ?_
        refine WL.nil ?_
        refine QT.n ?_
        exact ⟨⟨(k11, (IntKind.i64.wrap (s10.1 + 1), x15.2.S, x15.2.At, x15.2.Err, s10.2.2.2.2 ++ ([(⟨x13.1, IntKind.i64.wrap (iMin x15.1 (2147483648 : Int)), 0⟩ : T_api_Need)] : List T_api_Need))), H⟩, Nat.lt_succ_self _, Less.mk' ⟨rfl, rfl, rfl, rfl, rfl, rfl, rfl, rfl, rfl, rfl, trivial⟩ ⟨rfl, rfl, rfl, rfl, rfl, trivial⟩⟩
      replace H := of_f H h12
      refine WC.exit ?_
      refine QT.x (QT.x (QB.hit (QT.n ?_)))
      refine WC.heldP (.one 0 true (.one 1 true (.one 4 true (.one 2 false (.one 3 false (.one 5 true (.one 6 false .done))))))) [105, 108, 112] [105, 112] rfl (by kernel_rfl) rfl (by kernel_rfl) rfl rfl (fun _ h => h) rfl rfl rfl (fun _ _ _ h => h) fun FK NK wK K => ?_
      refine WH.mv rfl rfl rfl rfl rfl rfl rfl rfl rfl ?_
      refine WH.mv rfl rfl rfl rfl rfl rfl rfl rfl rfl ?_
      refine WH.run 1 tt_ok rfl rfl rfl rfl trivial ?_
      refine WH.freezeT 151 enc_api_Need s10.2.2.2.2 rfl rfl rfl rfl ?_
      refine WH.eff 209 tt_ok et_ok rfl rfl rfl rfl trivial rfl rfl ?_
      refine WH.freezeT 209 enc_sl_api_Need ([s10.2.2.2.2] : List (List T_api_Need)) rfl rfl rfl rfl ?_
      obtain ⟨g20, H⟩ := of_need H
      refine WH.appT enc_sl_api_Need s3.2.2.2.2 ([s10.2.2.2.2] : List (List T_api_Need)) tt_ok et_ok rfl rfl (fun _ => rfl) (fun _ => rfl) rfl rfl rfl rfl rfl (nCap_ok g20) rfl rfl rfl rfl rfl rfl rfl ?_
      refine WH.mv rfl rfl rfl rfl rfl rfl rfl rfl rfl ?_
      refine WH.eff 0 tt_ok et_ok rfl rfl rfl rfl trivial rfl rfl ?_
      refine WH.nil rfl ?_
      refine QB.n (QT.n ?_)
      exact ⟨(s10.2.1, s10.2.2.1, s10.2.2.2.1, s3.2.2.2.2 ++ ([s10.2.2.2.2] : List (List T_api_Need))), H, LessW.mk' ⟨AVle.of rfl, AVle.of rfl, AVle.of rfl, AVle.of rfl, AVle.of rfl, AVle.of rfl, trivial⟩ ⟨rfl, rfl, rfl, trivial⟩⟩
    · rintro E m ⟨s7, H, hl⟩
      refine WC.lessW hl ?_
      replace H := (hK6 _).symm.trans H
      try dsimp only at H
      refine WC.region ?_
      refine WL.run 3 tt_ok sg0 rfl rfl trivial ?_
      refine WL.nil ?_
      refine QT.n ?_
      exact ⟨⟨(k4, (IntKind.i64.wrap (s3.1 + 1), s7.1, s7.2.1, s7.2.2.1, s7.2.2.2)), H⟩, Nat.lt_succ_self _, Less.mk' ⟨rfl, rfl, rfl, rfl, rfl, rfl, trivial⟩ ⟨rfl, rfl, rfl, trivial⟩⟩
  replace H := of_f H h5
  refine WC.exit ?_
  refine QT.x (QT.x (QB.hit (QT.n ?_)))
  refine WC.seq ?_
  refine WC.seq ?_
  refine WC.region ?_
  refine WL.run 3 tt_ok sg0 rfl rfl trivial ?_
  refine WL.nil ?_
  refine QT.n ?_
  refine WC.cond rfl (fun h21 => ?_) (fun h21 => ?_)
  · replace H := of_t H h21
    refine WC.seq ?_
    refine WC.heldP (.one 0 true (.one 1 true (.one 2 true (.one 3 true (.one 4 false (.one 5 true .done)))))) [105, 108] [108] rfl (by kernel_rfl) rfl (by kernel_rfl) rfl rfl (fun _ h => h) rfl rfl rfl (fun _ _ _ h => h) fun FK NK wK K => ?_
    refine WH.run 4 tt_ok rfl rfl rfl rfl trivial ?_
    refine WH.eff 0 tt_ok et_ok rfl rfl rfl rfl trivial rfl rfl ?_
    refine WH.run 1 tt_ok rfl rfl rfl rfl trivial ?_
    refine WH.nil rfl ?_
    refine QT.n ?_
    refine WC.nilT 4 enc_sl_api_Need rfl ?_
    refine WC.ret ?_
    refine QT.r ?_
    cases H
    exact Ends.autoC tt_ok rfl rfl rfl trivial
  replace H := of_f H h21
  refine WC.skip ?_
  refine QT.n ?_
  refine WC.seq ?_
  refine WC.seq ?_
  refine WC.region ?_
  refine WL.run 2 tt_ok sg0 rfl rfl trivial ?_
  refine WL.freezeT 131 enc_sl_api_Need s3.2.2.2.2 rfl rfl rfl rfl ?_
  obtain ⟨x22, hx22, H⟩ := of_bind H
  refine WL.call [] (ref09_Check_0 _ _ hx22) ref09_Check_f rfl rfl trivial rfl rfl rfl ?_
  refine WL.run 1 tt_ok sg0 rfl rfl trivial ?_
  refine WL.nil ?_
  refine QT.n ?_
  refine WC.seq ?_
  refine WC.region ?_
  refine WL.run 2 tt_ok sg0 rfl rfl trivial ?_
  refine WL.nil ?_
  refine QT.n ?_
  refine WC.cond rfl (fun h23 => ?_) (fun h23 => ?_)
  · replace H := of_t H h23
    refine WC.seq ?_
    refine WC.heldP (.one 0 true (.one 1 true (.one 2 true (.one 3 false (.one 4 true .done))))) [105, 108] [108] rfl (by kernel_rfl) rfl (by kernel_rfl) rfl rfl (fun _ h => h) rfl rfl rfl (fun _ _ _ h => h) fun FK NK wK K => ?_
    refine WH.run 3 tt_ok rfl rfl rfl rfl trivial ?_
    refine WH.eff 0 tt_ok et_ok rfl rfl rfl rfl trivial rfl rfl ?_
    refine WH.run 1 tt_ok rfl rfl rfl rfl trivial ?_
    refine WH.nil rfl ?_
    refine QT.n ?_
    refine WC.nilT 4 enc_sl_api_Need rfl ?_
    refine WC.ret ?_
    refine QT.r ?_
    cases H
    exact Ends.autoC tt_ok rfl rfl rfl trivial
  replace H := of_f H h23
  refine WC.skip ?_
  refine QT.n ?_
  refine WC.seq ?_
  refine WC.heldP (.one 0 true (.one 1 true (.one 2 true (.one 3 false (.one 4 true .done))))) [105, 108] [108] rfl (by kernel_rfl) rfl (by kernel_rfl) rfl rfl (fun _ h => h) rfl rfl rfl (fun _ _ _ h => h) fun FK NK wK K => ?_
  refine WH.run 3 tt_ok rfl rfl rfl rfl trivial ?_
  refine WH.eff 0 tt_ok et_ok rfl rfl rfl rfl trivial rfl rfl ?_
  refine WH.run 1 tt_ok rfl rfl rfl rfl trivial ?_
  refine WH.nil rfl ?_
  refine QT.n ?_
  refine WC.ret ?_
  cases H
  exact Ends.autoC tt_ok rfl rfl rfl trivial
theorem ref09_Read_f : hasFunc Tryd.prog 35 Tryd.f35 := ⟨Tryd.func35, rfl, by kernel_rfl⟩

/-! ### logjam/logjamref09.Get -/
theorem ref09_Get_0 (a0 : List T_api_Decl) (a1 : ByteArray) {r : (List (List T_api_Need)) × Int × Int} (H : ref09_Get a0 a1 = some r) : LJ.Spec Tryd.prog 17 [.d (slT enc_api_Decl a0), .d (.str a1)] [] (.tup [.d (slT enc_sl_api_Need r.1), .d (.int .i64 r.2.1), .d (.int .i64 r.2.2)]) [] := by
  refine LJ.Spec.code Tryd.func17 rfl 24 rfl rfl [] rfl fun w0 F0 S0 B0 => ?_
  unfold ref09_Get at H
  refine WC.seq ?_
  refine WC.region ?_
  refine WL.run 3 tt_ok sg0 rfl rfl trivial ?_
  refine WL.nil ?_
  refine QT.n ?_
  refine WC.seq ?_
  refine WC.region ?_
  refine WL.run 3 tt_ok sg0 rfl rfl trivial ?_
  obtain ⟨x1, hx1, H⟩ := of_bind H
  refine WL.call [] (ref09_Read_0 _ _ hx1) ref09_Read_f rfl rfl trivial rfl rfl rfl ?_
  refine WL.run 4 tt_ok sg0 rfl rfl trivial ?_
  refine WL.alloc 108 tt_ok rfl rfl rfl ?_
  refine WL.run 1 tt_ok sg0 rfl rfl trivial ?_
  refine WL.eff 0 tt_ok et_ok eg0 rfl rfl rfl trivial ?_
  refine WL.run 1 tt_ok sg0 rfl rfl trivial ?_
  refine WL.nil ?_
  refine QT.n ?_
  refine WC.seq ?_
  refine WC.seq ?_
  refine WC.region ?_
  refine WL.run 2 tt_ok sg0 rfl rfl trivial ?_
  refine WL.nil ?_
  refine QT.n ?_
  refine WC.cond rfl (fun h2 => ?_) (fun h2 => ?_)
  · replace H := of_t H h2
    refine WC.seq ?_
    refine WC.region ?_
    refine WL.run 4 tt_ok sg0 rfl rfl trivial ?_
    refine WL.nil ?_
    refine QT.n ?_
    refine WC.nilT 4 enc_sl_api_Need rfl ?_
    refine WC.ret ?_
    refine QT.r ?_
    cases H
    exact Ends.auto rfl rfl rfl trivial
  replace H := of_f H h2
  refine WC.skip ?_
  refine QT.n ?_
  refine WC.seq ?_
  refine WC.heldP (.one 0 true (.one 1 true (.one 2 true (.one 3 true (.one 4 true (.one 5 true .done)))))) [108] [108] rfl (by kernel_rfl) rfl (by kernel_rfl) rfl rfl (fun _ h => h) rfl rfl rfl (fun _ _ _ h => h) fun FK NK wK K => ?_
  refine WH.run 6 tt_ok rfl rfl rfl rfl trivial ?_
  refine WH.nil rfl ?_
  refine QT.n ?_
  refine WC.ret ?_
  cases H
  exact Ends.auto rfl rfl rfl trivial
theorem ref09_Get_f : hasFunc Tryd.prog 17 Tryd.f17 := ⟨Tryd.func17, rfl, by kernel_rfl⟩

/-! ### logjam/logjamlaw09.NeedGets -/
theorem law09_NeedGets_0 (a0 : List T_api_Decl) (a1 : ByteArray) {r : Bool} (H : law09_NeedGets a0 a1 = some r) : LJ.Spec Tryd.prog 4 [.d (slT enc_api_Decl a0), .d (.str a1)] [] (.d (.bool r)) [] := by
  refine LJ.Spec.code Tryd.func4 rfl 45 rfl rfl [] rfl fun w0 F0 S0 B0 => ?_
  unfold law09_NeedGets at H
  refine WC.seq ?_
  refine WC.region ?_
  refine WL.run 1 tt_ok sg0 rfl rfl trivial ?_
  refine WL.nil ?_
  refine QT.n ?_
  refine WC.seq ?_
  refine WC.seq ?_
  refine WC.region ?_
  refine WL.run 1 tt_ok sg0 rfl rfl trivial ?_
  obtain ⟨x1, hx1, H⟩ := of_bind H
  refine WL.call [] (law09_bad_0 _ hx1) law09_bad_f rfl rfl trivial rfl rfl rfl ?_
  refine WL.nil ?_
  refine QT.n ?_
  refine WC.cond rfl (fun h2 => ?_) (fun h2 => ?_)
  · replace H := of_t H h2
    refine WC.seq ?_
    refine WC.region ?_
    obtain ⟨x3, hx3, H⟩ := of_bind H
    refine WL.call [] (law09_lives_0 hx3) law09_lives_f rfl rfl trivial rfl rfl rfl ?_
    refine WL.run 1 tt_ok sg0 rfl rfl trivial ?_
    refine WL.nil ?_
    refine QT.n ?_
    refine WC.ret ?_
    refine QT.r ?_
    cases H
    exact Ends.auto rfl rfl rfl trivial
  replace H := of_f H h2
  refine WC.skip ?_
  refine QT.n ?_
  refine WC.seq ?_
  refine WC.region ?_
  refine WL.run 1 tt_ok sg0 rfl rfl trivial ?_
  obtain ⟨x4, hx4, H⟩ := of_bind H
  refine WL.call [] (law09_decl_0 _ hx4) law09_decl_f rfl rfl trivial rfl rfl rfl ?_
  refine WL.run 1 tt_ok sg0 rfl rfl trivial ?_
  obtain ⟨x5, hx5, H⟩ := of_bind H
  refine WL.call [] (need_Get_0 _ _ hx5) need_Get_f rfl rfl trivial rfl rfl rfl ?_
  refine WL.run 7 tt_ok sg0 rfl rfl trivial ?_
  refine WL.nil ?_
  refine QT.n ?_
  refine WC.seq ?_
  refine WC.region ?_
  refine WL.run 2 tt_ok sg0 rfl rfl trivial ?_
  obtain ⟨x6, hx6, H⟩ := of_bind H
  refine WL.call [] (ref09_Get_0 _ _ hx6) ref09_Get_f rfl rfl trivial rfl rfl rfl ?_
  refine WL.run 7 tt_ok sg0 rfl rfl trivial ?_
  refine WL.nil ?_
  refine QT.n ?_
  refine WC.seq ?_
  refine WC.region ?_
  refine WL.run 2 tt_ok sg0 rfl rfl trivial ?_
  obtain ⟨x7, hx7, H⟩ := of_bind H
  refine WL.call [] (ref09_Same_0 _ _ hx7) ref09_Same_f rfl rfl trivial rfl rfl rfl ?_
  refine WL.run 1 tt_ok sg0 rfl rfl trivial ?_
  refine WL.sect 3 3 true tt_ok sg0 rfl rfl (fun _ => trivial) ?_
  refine WL.run 2 tt_ok sg0 rfl rfl ⟨by first | exact id | exact fun h => by rw [h]; rfl | simp_all, trivial⟩ ?_
  refine WL.sect 3 8 true tt_ok sg0 rfl rfl (fun _ => trivial) ?_
  refine WL.run 2 tt_ok sg0 rfl rfl ⟨by first | exact id | exact fun h => by rw [h]; rfl | simp_all, trivial⟩ ?_
  obtain ⟨x8, hx8, H⟩ := of_bind H
  refine WL.sect 1 13 true tt_ok [PSig.at' law09_lives_f (((x7 && (iEq x5.2.1 x6.2.1)) && (iEq x5.2.2 x6.2.2)) = true) rfl (fun hb => law09_lives_0  (of_t hx8 hb))] rfl rfl (fun hb => ⟨⟨hb, rfl⟩, trivial⟩) ?_
  refine WL.run 2 tt_ok sg0 rfl rfl ⟨by first | exact id | exact fun h => by rw [h]; rfl | simp_all, trivial⟩ ?_
  refine WL.nil ?_
  refine QT.n ?_
  refine WC.ret ?_
  cases H
  exact Ends.auto rfl rfl rfl trivial
theorem law09_NeedGets_f : hasFunc Tryd.prog 4 Tryd.f4 := ⟨Tryd.func4, rfl, by kernel_rfl⟩

/-! ### logjam/logjamlaw09.NeedBack -/
theorem law09_NeedBack_0 (a0 : List T_api_Decl) (a1 : List (List T_api_Need)) (a2 : ByteArray) {r : Bool} (H : law09_NeedBack a0 a1 a2 = some r) : LJ.Spec Tryd.prog 5 [.d (slT enc_api_Decl a0), .d (slT enc_sl_api_Need a1), .d (.str a2)] [] (.d (.bool r)) [] := by
  refine LJ.Spec.code Tryd.func5 rfl 59 rfl rfl [] rfl fun w0 F0 S0 B0 => ?_
  unfold law09_NeedBack at H
  refine WC.seq ?_
  refine WC.region ?_
  refine WL.run 1 tt_ok sg0 rfl rfl trivial ?_
  refine WL.nil ?_
  refine QT.n ?_
  refine WC.seq ?_
  refine WC.seq ?_
  refine WC.region ?_
  refine WL.run 1 tt_ok sg0 rfl rfl trivial ?_
  obtain ⟨x1, hx1, H⟩ := of_bind H
  refine WL.call [] (law09_bad_0 _ hx1) law09_bad_f rfl rfl trivial rfl rfl rfl ?_
  refine WL.run 1 tt_ok sg0 rfl rfl trivial ?_
  obtain ⟨x2, hx2, H⟩ := of_bind H
  refine WL.sect 4 2 false tt_ok [PSig.at' ref09_Check_f ((!x1) = true) rfl (fun hb => ref09_Check_0 _ _ (of_t hx2 hb))] rfl rfl (fun hb => ⟨⟨hb, rfl⟩, trivial⟩) ?_
  refine WL.run 1 tt_ok sg0 rfl rfl ⟨by first | exact id | exact fun h => by rw [h]; rfl | simp_all, trivial⟩ ?_
  refine WL.nil ?_
  refine QT.n ?_
  refine WC.cond rfl (fun h3 => ?_) (fun h3 => ?_)
  · replace H := of_t H h3
    refine WC.seq ?_
    refine WC.region ?_
    obtain ⟨x4, hx4, H⟩ := of_bind H
    refine WL.call [] (law09_lives_0 hx4) law09_lives_f rfl rfl trivial rfl rfl rfl ?_
    refine WL.run 1 tt_ok sg0 rfl rfl trivial ?_
    refine WL.nil ?_
    refine QT.n ?_
    refine WC.ret ?_
    refine QT.r ?_
    cases H
    exact Ends.auto rfl rfl rfl trivial
  replace H := of_f H h3
  refine WC.skip ?_
  refine QT.n ?_
  refine WC.seq ?_
  refine WC.region ?_
  refine WL.run 1 tt_ok sg0 rfl rfl trivial ?_
  obtain ⟨x5, hx5, H⟩ := of_bind H
  refine WL.call [] (law09_decl_0 _ hx5) law09_decl_f rfl rfl trivial rfl rfl rfl ?_
  refine WL.run 1 tt_ok sg0 rfl rfl trivial ?_
  obtain ⟨x6, hx6, H⟩ := of_bind H
  refine WL.call [] (law09_Own_0 _ hx6) law09_Own_f rfl rfl trivial rfl rfl rfl ?_
  obtain ⟨x7, hx7, H⟩ := of_bind H
  refine WL.call [] (need_Put_0 _ _ hx7) need_Put_f rfl rfl trivial rfl rfl rfl ?_
  refine WL.run 5 tt_ok sg0 rfl rfl trivial ?_
  refine WL.nil ?_
  refine QT.n ?_
  refine WC.seq ?_
  refine WC.region ?_
  refine WL.run 1 tt_ok sg0 rfl rfl trivial ?_
  obtain ⟨x8, hx8, H⟩ := of_bind H
  refine WL.call [] (law09_decl_0 _ hx8) law09_decl_f rfl rfl trivial rfl rfl rfl ?_
  obtain ⟨g9, H⟩ := of_need H
  refine WL.run 3 tt_ok sg0 rfl rfl ⟨(nStr_ok g9), trivial⟩ ?_
  obtain ⟨x10, hx10, H⟩ := of_bind H
  refine WL.call [] (need_Get_0 _ _ hx10) need_Get_f rfl rfl trivial rfl rfl rfl ?_
  refine WL.run 7 tt_ok sg0 rfl rfl trivial ?_
  refine WL.nil ?_
  refine QT.n ?_
  refine WC.seq ?_
  refine WC.region ?_
  refine WL.run 3 tt_ok sg0 rfl rfl trivial ?_
  refine WL.sect 2 2 true tt_ok sg0 rfl rfl (fun _ => trivial) ?_
  refine WL.run 2 tt_ok sg0 rfl rfl ⟨by first | exact id | exact fun h => by rw [h]; rfl | simp_all, trivial⟩ ?_
  obtain ⟨x11, hx11, H⟩ := of_bind H
  refine WL.sect 3 6 true tt_ok [PSig.at' ref09_Same_f (((iEq x7.2 0) && (iEq x10.2.2 0)) = true) rfl (fun hb => ref09_Same_0 _ _ (of_t hx11 hb))] rfl rfl (fun hb => ⟨⟨hb, rfl⟩, trivial⟩) ?_
  refine WL.run 2 tt_ok sg0 rfl rfl ⟨by first | exact id | exact fun h => by rw [h]; rfl | simp_all, trivial⟩ ?_
  refine WL.sect 4 11 true tt_ok sg0 rfl rfl (fun _ => trivial) ?_
  refine WL.run 2 tt_ok sg0 rfl rfl ⟨by first | exact id | exact fun h => by rw [h]; rfl | simp_all, trivial⟩ ?_
  obtain ⟨x12, hx12, H⟩ := of_bind H
  refine WL.sect 1 17 true tt_ok [PSig.at' law09_lives_f (((((iEq x7.2 0) && (iEq x10.2.2 0)) && x11) && (iEq x10.2.1 (x7.1.size : Int))) = true) rfl (fun hb => law09_lives_0  (of_t hx12 hb))] rfl rfl (fun hb => ⟨⟨hb, rfl⟩, trivial⟩) ?_
  refine WL.run 2 tt_ok sg0 rfl rfl ⟨by first | exact id | exact fun h => by rw [h]; rfl | simp_all, trivial⟩ ?_
  refine WL.nil ?_
  refine QT.n ?_
  refine WC.ret ?_
  cases H
  exact Ends.auto rfl rfl rfl trivial
theorem law09_NeedBack_f : hasFunc Tryd.prog 5 Tryd.f5 := ⟨Tryd.func5, rfl, by kernel_rfl⟩

/-! ### logjam/logjamlaw09.NeedOnce -/
theorem law09_NeedOnce_0 (a0 : List T_api_Decl) (a1 : ByteArray) {r : Bool} (H : law09_NeedOnce a0 a1 = some r) : LJ.Spec Tryd.prog 6 [.d (slT enc_api_Decl a0), .d (.str a1)] [] (.d (.bool r)) [] := by
  refine LJ.Spec.code Tryd.func6 rfl 62 rfl rfl [] rfl fun w0 F0 S0 B0 => ?_
  unfold law09_NeedOnce at H
  refine WC.seq ?_
  refine WC.region ?_
  refine WL.run 1 tt_ok sg0 rfl rfl trivial ?_
  refine WL.nil ?_
  refine QT.n ?_
  refine WC.seq ?_
  refine WC.seq ?_
  refine WC.region ?_
  refine WL.run 1 tt_ok sg0 rfl rfl trivial ?_
  obtain ⟨x1, hx1, H⟩ := of_bind H
  refine WL.call [] (law09_bad_0 _ hx1) law09_bad_f rfl rfl trivial rfl rfl rfl ?_
  refine WL.nil ?_
  refine QT.n ?_
  refine WC.cond rfl (fun h2 => ?_) (fun h2 => ?_)
  · replace H := of_t H h2
    refine WC.seq ?_
    refine WC.region ?_
    obtain ⟨x3, hx3, H⟩ := of_bind H
    refine WL.call [] (law09_lives_0 hx3) law09_lives_f rfl rfl trivial rfl rfl rfl ?_
    refine WL.run 1 tt_ok sg0 rfl rfl trivial ?_
    refine WL.nil ?_
    refine QT.n ?_
    refine WC.ret ?_
    refine QT.r ?_
    cases H
    exact Ends.auto rfl rfl rfl trivial
  replace H := of_f H h2
  refine WC.skip ?_
  refine QT.n ?_
  refine WC.seq ?_
  refine WC.region ?_
  refine WL.run 1 tt_ok sg0 rfl rfl trivial ?_
  obtain ⟨x4, hx4, H⟩ := of_bind H
  refine WL.call [] (law09_decl_0 _ hx4) law09_decl_f rfl rfl trivial rfl rfl rfl ?_
  refine WL.run 1 tt_ok sg0 rfl rfl trivial ?_
  obtain ⟨x5, hx5, H⟩ := of_bind H
  refine WL.call [] (need_Get_0 _ _ hx5) need_Get_f rfl rfl trivial rfl rfl rfl ?_
  refine WL.run 7 tt_ok sg0 rfl rfl trivial ?_
  refine WL.nil ?_
  refine QT.n ?_
  refine WC.seq ?_
  refine WC.seq ?_
  refine WC.region ?_
  refine WL.run 2 tt_ok sg0 rfl rfl trivial ?_
  refine WL.nil ?_
  refine QT.n ?_
  refine WC.cond rfl (fun h6 => ?_) (fun h6 => ?_)
  · replace H := of_t H h6
    refine WC.seq ?_
    refine WC.region ?_
    refine WL.run 4 tt_ok sg0 rfl rfl trivial ?_
    refine WL.sect 2 3 true tt_ok sg0 rfl rfl (fun _ => trivial) ?_
    refine WL.run 2 tt_ok sg0 rfl rfl ⟨by first | exact id | exact fun h => by rw [h]; rfl | simp_all, trivial⟩ ?_
    obtain ⟨x7, hx7, H⟩ := of_bind H
    refine WL.sect 1 7 true tt_ok [PSig.at' law09_lives_f (((iEq (x5.1.length : Int) 0) && (iEq x5.2.1 0)) = true) rfl (fun hb => law09_lives_0  (of_t hx7 hb))] rfl rfl (fun hb => ⟨⟨hb, rfl⟩, trivial⟩) ?_
    refine WL.run 2 tt_ok sg0 rfl rfl ⟨by first | exact id | exact fun h => by rw [h]; rfl | simp_all, trivial⟩ ?_
    refine WL.nil ?_
    refine QT.n ?_
    refine WC.ret ?_
    refine QT.r ?_
    cases H
    exact Ends.auto rfl rfl rfl trivial
  replace H := of_f H h6
  refine WC.skip ?_
  refine QT.n ?_
  refine WC.seq ?_
  refine WC.region ?_
  refine WL.run 1 tt_ok sg0 rfl rfl trivial ?_
  obtain ⟨x8, hx8, H⟩ := of_bind H
  refine WL.call [] (law09_decl_0 _ hx8) law09_decl_f rfl rfl trivial rfl rfl rfl ?_
  refine WL.run 1 tt_ok sg0 rfl rfl trivial ?_
  obtain ⟨x9, hx9, H⟩ := of_bind H
  refine WL.call [] (need_Put_0 _ _ hx9) need_Put_f rfl rfl trivial rfl rfl rfl ?_
  refine WL.run 5 tt_ok sg0 rfl rfl trivial ?_
  refine WL.nil ?_
  refine QT.n ?_
  refine WC.seq ?_
  refine WC.region ?_
  refine WL.run 3 tt_ok sg0 rfl rfl trivial ?_
  refine WL.sect 2 2 true tt_ok sg0 rfl rfl (fun _ => trivial) ?_
  refine WL.run 2 tt_ok sg0 rfl rfl ⟨by first | exact id | exact fun h => by rw [h]; rfl | simp_all, trivial⟩ ?_
  refine WL.sect 4 6 true tt_ok sg0 rfl rfl (fun _ => trivial) ?_
  refine WL.run 2 tt_ok sg0 rfl rfl ⟨by first | exact id | exact fun h => by rw [h]; rfl | simp_all, trivial⟩ ?_
  obtain ⟨g10, H⟩ := of_needS H
  refine WL.sect 5 12 true tt_ok sg0 rfl rfl (fun hb => ⟨(nTo_ok (g10 hb)), trivial⟩) ?_
  refine WL.run 2 tt_ok sg0 rfl rfl ⟨by first | exact id | exact fun h => by rw [h]; rfl | simp_all, trivial⟩ ?_
  obtain ⟨x11, hx11, H⟩ := of_bind H
  refine WL.sect 1 19 true tt_ok [PSig.at' law09_lives_f (((((iEq x9.2 0) && (iLt 0 x5.2.1)) && (iLe x5.2.1 (a1.size : Int))) && (sEq x9.1 (a1.extract 0 x5.2.1.toNat))) = true) rfl (fun hb => law09_lives_0  (of_t hx11 hb))] rfl rfl (fun hb => ⟨⟨hb, rfl⟩, trivial⟩) ?_
  refine WL.run 2 tt_ok sg0 rfl rfl ⟨by first | exact id | exact fun h => by rw [h]; rfl | simp_all, trivial⟩ ?_
  refine WL.nil ?_
  refine QT.n ?_
  refine WC.ret ?_
  cases H
  exact Ends.auto rfl rfl rfl trivial
theorem law09_NeedOnce_f : hasFunc Tryd.prog 6 Tryd.f6 := ⟨Tryd.func6, rfl, by kernel_rfl⟩

end Go.Proofs.YtdgnolnlcflmmaaDoor.W
