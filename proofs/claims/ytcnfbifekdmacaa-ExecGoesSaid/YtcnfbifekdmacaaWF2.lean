/- Each Go function comes to what its plain function gives, where that gives something. -/
import Derived.Test.YtcnfbifekdmacaaPF
import Derived.Test.YtcnfbifekdmacaaWF1
import Derived.Test.YtcnfbifekdmacaaXRsl
namespace Go.Proofs.Ytcnfbifekdmacaa.W
open Go Go.RowKit LJ
set_option linter.unusedVariables false
set_option linter.unusedSimpArgs false
set_option maxRecDepth 10000
/-! ### logjam/logjamref03.Do -/
theorem ref03_Do_0 (a0 : Int) (a1 : Int) (a2 : Int) {r : Int × Int} (H : ref03_Do a0 a1 a2 = some r) : LJ.Spec Try.prog 34 [.d (.int .i64 a0), .d (.int .i64 a1), .d (.int .i64 a2)] [] (.tup [.d (.int .i64 r.1), .d (.int .i64 r.2)]) [] := by
  refine LJ.Spec.code Try.func34 rfl 89 rfl rfl [] rfl fun w0 F0 S0 B0 => ?_
  unfold ref03_Do at H
  refine WC.seq ?_
  refine WC.region ?_
  refine WL.run 2 tt_ok sg0 rfl rfl trivial ?_
  refine WL.nil ?_
  refine QT.n ?_
  refine WC.seq ?_
  refine WC.region ?_
  refine WL.run 1 tt_ok sg0 rfl rfl trivial ?_
  obtain ⟨x1, hx1, H⟩ := of_bind H
  refine WL.call [] (ref03_Low_0 _ hx1) ref03_Low_f rfl rfl trivial rfl rfl rfl ?_
  refine WL.run 1 tt_ok sg0 rfl rfl trivial ?_
  obtain ⟨x2, hx2, H⟩ := of_bind H
  refine WL.call [] (ref03_Low_0 _ hx2) ref03_Low_f rfl rfl trivial rfl rfl rfl ?_
  refine WL.run 2 tt_ok sg0 rfl rfl trivial ?_
  refine WL.nil ?_
  refine QT.n ?_
  refine WC.seq ?_
  refine WC.seq ?_
  refine WC.region ?_
  refine WL.run 1 tt_ok sg0 rfl rfl trivial ?_
  refine WL.nil ?_
  refine QT.n ?_
  refine WC.block ?_
  refine WC.seq ?_
  refine WC.region ?_
  refine WL.run 2 tt_ok sg0 rfl rfl trivial ?_
  refine WL.nil ?_
  refine QT.n ?_
  refine WC.cond rfl (fun h3 => ?_) (fun h3 => ?_)
  · replace H := of_t H h3
    refine WC.seq ?_
    refine WC.region ?_
    refine WL.run 3 tt_ok sg0 rfl rfl trivial ?_
    obtain ⟨x4, hx4, H⟩ := of_bind H
    refine WL.call [] (ref03_exact_0 _ hx4) ref03_exact_f rfl rfl trivial rfl rfl rfl ?_
    refine WL.run 4 tt_ok sg0 rfl rfl trivial ?_
    refine WL.nil ?_
    refine QT.n ?_
    refine WC.ret ?_
    refine QB.r (QT.r ?_)
    cases H
    exact Ends.auto rfl rfl rfl trivial
  replace H := of_f H h3
  refine WC.seq ?_
  refine WC.region ?_
  refine WL.run 2 tt_ok sg0 rfl rfl trivial ?_
  refine WL.nil ?_
  refine QT.n ?_
  refine WC.cond rfl (fun h5 => ?_) (fun h5 => ?_)
  · replace H := of_t H h5
    refine WC.seq ?_
    refine WC.region ?_
    refine WL.run 3 tt_ok sg0 rfl rfl trivial ?_
    obtain ⟨x6, hx6, H⟩ := of_bind H
    refine WL.call [] (ref03_exact_0 _ hx6) ref03_exact_f rfl rfl trivial rfl rfl rfl ?_
    refine WL.run 4 tt_ok sg0 rfl rfl trivial ?_
    refine WL.nil ?_
    refine QT.n ?_
    refine WC.ret ?_
    refine QB.r (QT.r ?_)
    cases H
    exact Ends.auto rfl rfl rfl trivial
  replace H := of_f H h5
  refine WC.seq ?_
  refine WC.region ?_
  refine WL.run 2 tt_ok sg0 rfl rfl trivial ?_
  refine WL.nil ?_
  refine QT.n ?_
  refine WC.cond rfl (fun h7 => ?_) (fun h7 => ?_)
  · replace H := of_t H h7
    refine WC.seq ?_
    refine WC.region ?_
    refine WL.run 3 tt_ok sg0 rfl rfl trivial ?_
    obtain ⟨x8, hx8, H⟩ := of_bind H
    refine WL.call [] (ref03_exact_0 _ hx8) ref03_exact_f rfl rfl trivial rfl rfl rfl ?_
    refine WL.run 4 tt_ok sg0 rfl rfl trivial ?_
    refine WL.nil ?_
    refine QT.n ?_
    refine WC.ret ?_
    refine QB.r (QT.r ?_)
    cases H
    exact Ends.auto rfl rfl rfl trivial
  replace H := of_f H h7
  refine WC.seq ?_
  refine WC.seq ?_
  refine WC.region ?_
  refine WL.run 2 tt_ok sg0 rfl rfl trivial ?_
  refine WL.nil ?_
  refine QT.n ?_
  refine WC.cond rfl (fun h9 => ?_) (fun h9 => ?_)
  · replace H := of_t H h9
    refine WC.known (g := 37) true rfl h9 ?_
    refine WC.skip ?_
    refine QT.n ?_
    refine WC.cond rfl (fun h => ?_) (fun h => absurd h (by decide))
    refine WC.seq ?_
    refine WC.seq ?_
    refine WC.region ?_
    refine WL.run 2 tt_ok sg0 rfl rfl trivial ?_
    refine WL.nil ?_
    refine QT.n ?_
    refine WC.cond rfl (fun h10 => ?_) (fun h10 => ?_)
    · replace H := of_t H h10
      refine WC.seq ?_
      refine WC.region ?_
      refine WL.run 2 tt_ok sg0 rfl rfl trivial ?_
      refine WL.nil ?_
      refine QT.n ?_
      refine WC.ret ?_
      refine QT.r (QB.r (QT.r ?_))
      cases H
      exact Ends.auto rfl rfl rfl trivial
    replace H := of_f H h10
    refine WC.skip ?_
    refine QT.n ?_
    refine WC.seq ?_
    refine WC.seq ?_
    refine WC.region ?_
    refine WL.run 2 tt_ok sg0 rfl rfl trivial ?_
    refine WL.nil ?_
    refine QT.n ?_
    refine WC.cond rfl (fun h11 => ?_) (fun h11 => ?_)
    · replace H := of_t H h11
      refine WC.seq ?_
      refine WC.region ?_
      obtain ⟨g12, H⟩ := of_need H
      refine WL.run 9 tt_ok sg0 rfl rfl ⟨(nNz_ok g12), trivial⟩ ?_
      refine WL.nil ?_
      refine QT.n ?_
      refine WC.ret ?_
      refine QT.r (QB.r (QT.r ?_))
      cases H
      exact Ends.auto rfl rfl rfl trivial
    replace H := of_f H h11
    refine WC.skip ?_
    refine QT.n ?_
    refine WC.seq ?_
    refine WC.region ?_
    obtain ⟨g13, H⟩ := of_need H
    refine WL.run 3 tt_ok sg0 rfl rfl ⟨(nNz_ok g13), trivial⟩ ?_
    obtain ⟨x14, hx14, H⟩ := of_bind H
    refine WL.call [] (ref03_exact_0 _ hx14) ref03_exact_f rfl rfl trivial rfl rfl rfl ?_
    refine WL.run 4 tt_ok sg0 rfl rfl trivial ?_
    refine WL.nil ?_
    refine QT.n ?_
    refine WC.ret ?_
    refine QB.r (QT.r ?_)
    cases H
    exact Ends.auto rfl rfl rfl trivial
  replace H := of_f H h9
  refine WC.region ?_
  refine WL.run 2 tt_ok sg0 rfl rfl trivial ?_
  refine WL.nil ?_
  refine QT.n ?_
  refine WC.cond rfl (fun h15 => ?_) (fun h15 => ?_)
  · replace H := of_t H h15
    refine WC.seq ?_
    refine WC.seq ?_
    refine WC.region ?_
    refine WL.run 2 tt_ok sg0 rfl rfl trivial ?_
    refine WL.nil ?_
    refine QT.n ?_
    refine WC.cond rfl (fun h16 => ?_) (fun h16 => ?_)
    · replace H := of_t H h16
      refine WC.seq ?_
      refine WC.region ?_
      refine WL.run 2 tt_ok sg0 rfl rfl trivial ?_
      refine WL.nil ?_
      refine QT.n ?_
      refine WC.ret ?_
      refine QT.r (QB.r (QT.r ?_))
      cases H
      exact Ends.auto rfl rfl rfl trivial
    replace H := of_f H h16
    refine WC.skip ?_
    refine QT.n ?_
    refine WC.seq ?_
    refine WC.seq ?_
    refine WC.region ?_
    refine WL.run 2 tt_ok sg0 rfl rfl trivial ?_
    refine WL.nil ?_
    refine QT.n ?_
    refine WC.cond rfl (fun h17 => ?_) (fun h17 => ?_)
    · replace H := of_t H h17
      refine WC.seq ?_
      refine WC.region ?_
      obtain ⟨g18, H⟩ := of_need H
      refine WL.run 9 tt_ok sg0 rfl rfl ⟨(nNz_ok g18), trivial⟩ ?_
      refine WL.nil ?_
      refine QT.n ?_
      refine WC.ret ?_
      refine QT.r (QB.r (QT.r ?_))
      cases H
      exact Ends.auto rfl rfl rfl trivial
    replace H := of_f H h17
    refine WC.skip ?_
    refine QT.n ?_
    refine WC.seq ?_
    refine WC.region ?_
    obtain ⟨g19, H⟩ := of_need H
    refine WL.run 3 tt_ok sg0 rfl rfl ⟨(nNz_ok g19), trivial⟩ ?_
    obtain ⟨x20, hx20, H⟩ := of_bind H
    refine WL.call [] (ref03_exact_0 _ hx20) ref03_exact_f rfl rfl trivial rfl rfl rfl ?_
    refine WL.run 4 tt_ok sg0 rfl rfl trivial ?_
    refine WL.nil ?_
    refine QT.n ?_
    refine WC.ret ?_
    refine QB.r (QT.r ?_)
    cases H
    exact Ends.auto rfl rfl rfl trivial
  replace H := of_f H h15
  refine WC.seq ?_
  refine WC.region ?_
  refine WL.run 2 tt_ok sg0 rfl rfl trivial ?_
  refine WL.nil ?_
  refine QT.n ?_
  refine WC.cond rfl (fun h21 => ?_) (fun h21 => ?_)
  · replace H := of_t H h21
    refine WC.seq ?_
    refine WC.region ?_
    refine WL.run 2 tt_ok sg0 rfl rfl trivial ?_
    obtain ⟨x22, hx22, H⟩ := of_bind H
    refine WL.call [] (ref03_exact_0 _ hx22) ref03_exact_f rfl rfl trivial rfl rfl rfl ?_
    refine WL.run 4 tt_ok sg0 rfl rfl trivial ?_
    refine WL.nil ?_
    refine QT.n ?_
    refine WC.ret ?_
    refine QB.r (QT.r ?_)
    cases H
    exact Ends.auto rfl rfl rfl trivial
  replace H := of_f H h21
  refine WC.seq ?_
  refine WC.region ?_
  refine WL.run 2 tt_ok sg0 rfl rfl trivial ?_
  refine WL.nil ?_
  refine QT.n ?_
  refine WC.cond rfl (fun h23 => ?_) (fun h23 => ?_)
  · replace H := of_t H h23
    refine WC.seq ?_
    refine WC.seq ?_
    refine WC.region ?_
    refine WL.run 3 tt_ok sg0 rfl rfl trivial ?_
    refine WL.nil ?_
    refine QT.n ?_
    refine WC.cond rfl (fun h24 => ?_) (fun h24 => ?_)
    · replace H := of_t H h24
      refine WC.seq ?_
      refine WC.region ?_
      refine WL.run 2 tt_ok sg0 rfl rfl trivial ?_
      refine WL.nil ?_
      refine QT.n ?_
      refine WC.ret ?_
      refine QT.r (QB.r (QT.r ?_))
      cases H
      exact Ends.auto rfl rfl rfl trivial
    replace H := of_f H h24
    refine WC.skip ?_
    refine QT.n ?_
    refine WC.seq ?_
    refine WC.region ?_
    refine WL.run 2 tt_ok sg0 rfl rfl trivial ?_
    refine WL.nil ?_
    refine QT.n ?_
    refine WC.ret ?_
    refine QB.r (QT.r ?_)
    cases H
    exact Ends.auto rfl rfl rfl trivial
  replace H := of_f H h23
  refine WC.seq ?_
  refine WC.region ?_
  refine WL.run 2 tt_ok sg0 rfl rfl trivial ?_
  refine WL.nil ?_
  refine QT.n ?_
  refine WC.cond rfl (fun h25 => ?_) (fun h25 => ?_)
  · replace H := of_t H h25
    refine WC.seq ?_
    refine WC.seq ?_
    refine WC.region ?_
    refine WL.run 3 tt_ok sg0 rfl rfl trivial ?_
    refine WL.nil ?_
    refine QT.n ?_
    refine WC.cond rfl (fun h26 => ?_) (fun h26 => ?_)
    · replace H := of_t H h26
      refine WC.seq ?_
      refine WC.region ?_
      refine WL.run 2 tt_ok sg0 rfl rfl trivial ?_
      refine WL.nil ?_
      refine QT.n ?_
      refine WC.ret ?_
      refine QT.r (QB.r (QT.r ?_))
      cases H
      exact Ends.auto rfl rfl rfl trivial
    replace H := of_f H h26
    refine WC.skip ?_
    refine QT.n ?_
    refine WC.seq ?_
    refine WC.region ?_
    refine WL.run 2 tt_ok sg0 rfl rfl trivial ?_
    refine WL.nil ?_
    refine QT.n ?_
    refine WC.ret ?_
    refine QB.r (QT.r ?_)
    cases H
    exact Ends.auto rfl rfl rfl trivial
  replace H := of_f H h25
  refine WC.seq ?_
  refine WC.seq ?_
  refine WC.region ?_
  refine WL.run 2 tt_ok sg0 rfl rfl trivial ?_
  refine WL.nil ?_
  refine QT.n ?_
  refine WC.cond rfl (fun h27 => ?_) (fun h27 => ?_)
  · replace H := of_t H h27
    refine WC.known (g := 74) true rfl h27 ?_
    refine WC.skip ?_
    refine QT.n ?_
    refine WC.cond rfl (fun h => ?_) (fun h => absurd h (by decide))
    refine WC.seq ?_
    refine WC.region ?_
    refine WL.run 3 tt_ok sg0 rfl rfl trivial ?_
    obtain ⟨x28, hx28, H⟩ := of_bind H
    refine WL.call [] (ref03_bits_0 _ _ _ hx28) ref03_bits_f rfl rfl trivial rfl rfl rfl ?_
    refine WL.run 2 tt_ok sg0 rfl rfl trivial ?_
    refine WL.nil ?_
    refine QT.n ?_
    refine WC.ret ?_
    refine QB.r (QT.r ?_)
    cases H
    exact Ends.auto rfl rfl rfl trivial
  replace H := of_f H h27
  refine WC.seq ?_
  refine WC.region ?_
  refine WL.run 2 tt_ok sg0 rfl rfl trivial ?_
  refine WL.nil ?_
  refine QT.n ?_
  refine WC.cond rfl (fun h29 => ?_) (fun h29 => ?_)
  · replace H := of_t H h29
    refine WC.known (g := 74) true rfl h29 ?_
    refine WC.skip ?_
    refine QT.n ?_
    refine WC.cond rfl (fun h => ?_) (fun h => absurd h (by decide))
    refine WC.seq ?_
    refine WC.region ?_
    refine WL.run 3 tt_ok sg0 rfl rfl trivial ?_
    obtain ⟨x30, hx30, H⟩ := of_bind H
    refine WL.call [] (ref03_bits_0 _ _ _ hx30) ref03_bits_f rfl rfl trivial rfl rfl rfl ?_
    refine WL.run 2 tt_ok sg0 rfl rfl trivial ?_
    refine WL.nil ?_
    refine QT.n ?_
    refine WC.ret ?_
    refine QB.r (QT.r ?_)
    cases H
    exact Ends.auto rfl rfl rfl trivial
  replace H := of_f H h29
  refine WC.region ?_
  refine WL.run 2 tt_ok sg0 rfl rfl trivial ?_
  refine WL.nil ?_
  refine QT.n ?_
  refine WC.cond rfl (fun h31 => ?_) (fun h31 => ?_)
  · replace H := of_t H h31
    refine WC.seq ?_
    refine WC.region ?_
    refine WL.run 3 tt_ok sg0 rfl rfl trivial ?_
    obtain ⟨x32, hx32, H⟩ := of_bind H
    refine WL.call [] (ref03_bits_0 _ _ _ hx32) ref03_bits_f rfl rfl trivial rfl rfl rfl ?_
    refine WL.run 2 tt_ok sg0 rfl rfl trivial ?_
    refine WL.nil ?_
    refine QT.n ?_
    refine WC.ret ?_
    refine QB.r (QT.r ?_)
    cases H
    exact Ends.auto rfl rfl rfl trivial
  replace H := of_f H h31
  refine WC.seq ?_
  refine WC.seq ?_
  refine WC.region ?_
  refine WL.run 2 tt_ok sg0 rfl rfl trivial ?_
  refine WL.nil ?_
  refine QT.n ?_
  refine WC.cond rfl (fun h33 => ?_) (fun h33 => ?_)
  · replace H := of_t H h33
    refine WC.known (g := 82) true rfl h33 ?_
    refine WC.skip ?_
    refine QT.n ?_
    refine WC.cond rfl (fun h => ?_) (fun h => absurd h (by decide))
    refine WC.seq ?_
    refine WC.region ?_
    refine WL.run 3 tt_ok sg0 rfl rfl trivial ?_
    obtain ⟨x34, hx34, H⟩ := of_bind H
    refine WL.call [] (ref03_shift_0 _ _ _ hx34) ref03_shift_f rfl rfl trivial rfl rfl rfl ?_
    refine WL.run 2 tt_ok sg0 rfl rfl trivial ?_
    refine WL.nil ?_
    refine QT.n ?_
    refine WC.ret ?_
    refine QB.r (QT.r ?_)
    cases H
    exact Ends.auto rfl rfl rfl trivial
  replace H := of_f H h33
  refine WC.region ?_
  refine WL.run 2 tt_ok sg0 rfl rfl trivial ?_
  refine WL.nil ?_
  refine QT.n ?_
  refine WC.cond rfl (fun h35 => ?_) (fun h35 => ?_)
  · replace H := of_t H h35
    refine WC.seq ?_
    refine WC.region ?_
    refine WL.run 3 tt_ok sg0 rfl rfl trivial ?_
    obtain ⟨x36, hx36, H⟩ := of_bind H
    refine WL.call [] (ref03_shift_0 _ _ _ hx36) ref03_shift_f rfl rfl trivial rfl rfl rfl ?_
    refine WL.run 2 tt_ok sg0 rfl rfl trivial ?_
    refine WL.nil ?_
    refine QT.n ?_
    refine WC.ret ?_
    refine QB.r (QT.r ?_)
    cases H
    exact Ends.auto rfl rfl rfl trivial
  replace H := of_f H h35
  refine WC.skip ?_
  refine QB.n (QT.n ?_)
  refine WC.seq ?_
  refine WC.region ?_
  refine WL.run 2 tt_ok sg0 rfl rfl trivial ?_
  refine WL.nil ?_
  refine QT.n ?_
  refine WC.ret ?_
  cases H
  exact Ends.auto rfl rfl rfl trivial
theorem ref03_Do_f : hasFunc Try.prog 34 Try.f34 := ⟨Try.func34, rfl, by kernel_rfl⟩

/-! ### logjam/logjamref15.Do -/
theorem ref15_Do_0 (a0 : T_api_Program) (a1 : List T_api_Frame) (a2 : Int) (a3 : Int) {r : (List T_api_Frame) × T_api_Effect × Int} (H : ref15_Do a0 a1 a2 a3 = some r) : LJ.Spec Try.prog 11 [.d (.agg [slT enc_api_Decl a0.Decls, slT enc_sl_sl_api_Need a0.Waits, slT enc_api_Func a0.Funcs]), .d (slT enc_api_Frame a1), .d (.int .i64 a2), .d (.int .i64 a3)] [] (.tup [.d (slT enc_api_Frame r.1), .d (.agg [.int .i64 r.2.1.Op, .int .i64 r.2.1.A, .int .i64 r.2.1.B, .int .i64 (r.2.1.X.getD 0 default), .int .i64 (r.2.1.X.getD 1 default), .int .i64 (r.2.1.X.getD 2 default), .int .i64 (r.2.1.X.getD 3 default), .int .i64 (r.2.1.X.getD 4 default)]), .d (.int .i64 r.2.2)]) [] := by
  refine LJ.Spec.code Try.func11 rfl 234 rfl rfl [] rfl fun w0 F0 S0 B0 => ?_
  unfold ref15_Do at H
  refine WC.seq ?_
  refine WC.region ?_
  refine WL.eff 104 tt_ok et_ok eg0 rfl rfl rfl trivial ?_
  refine WL.run 1 tt_ok sg0 rfl rfl trivial ?_
  refine WL.alloc 109 tt_ok rfl rfl rfl ?_
  refine WL.run 1 tt_ok sg0 rfl rfl trivial ?_
  refine WL.nil ?_
  refine QT.n ?_
  refine WC.seq ?_
  refine WC.region ?_
  refine WL.run 2 tt_ok sg0 rfl rfl trivial ?_
  obtain ⟨x1, hx1, H⟩ := of_bind H
  refine WL.call [] (ref15_At_0 _ _ hx1) ref15_At_f rfl rfl trivial rfl rfl rfl ?_
  refine WL.run 1 tt_ok sg0 rfl rfl trivial ?_
  refine WL.alloc 111 tt_ok rfl rfl rfl ?_
  refine WL.alloc 112 tt_ok rfl rfl rfl ?_
  refine WL.eff 0 tt_ok et_ok eg0 rfl rfl rfl trivial ?_
  refine WL.eff 0 tt_ok et_ok eg0 rfl rfl rfl trivial ?_
  refine WL.nil ?_
  refine QT.n ?_
  refine WC.seq ?_
  refine WC.region ?_
  obtain ⟨g2, H⟩ := of_need H
  refine WL.run 9 tt_ok sg0 rfl rfl ⟨⟨(nIn_ok g2).1, (nIn_ok g2).2, rfl⟩, trivial⟩ ?_
  obtain ⟨x3, hx3, H⟩ := of_bind H
  refine WL.call [] (ref14_Go_0 _ _ hx3) ref14_Go_f rfl rfl trivial rfl rfl rfl ?_
  refine WL.run 1 tt_ok sg0 rfl rfl trivial ?_
  refine WL.nil ?_
  refine QT.n ?_
  refine WC.seq ?_
  refine WC.seq ?_
  refine WC.region ?_
  refine WL.run 3 tt_ok sg0 rfl rfl trivial ?_
  refine WL.nil ?_
  refine QT.n ?_
  refine WC.cond rfl (fun h4 => ?_) (fun h4 => ?_)
  · replace H := of_t H h4
    refine WC.seq ?_
    refine WC.seq ?_
    refine WC.region ?_
    refine WL.run 3 tt_ok sg0 rfl rfl trivial ?_
    refine WL.nil ?_
    refine QT.n ?_
    refine WC.cond rfl (fun h5 => ?_) (fun h5 => ?_)
    · replace H := of_t H h5
      refine WC.seq ?_
      refine WC.heldP (.one 0 true (.one 1 true (.one 2 true (.one 3 false (.one 4 true .done))))) [104, 109, 111, 112] [104, 111, 112] rfl (by kernel_rfl) rfl (by kernel_rfl) rfl rfl (fun _ h => h) rfl rfl rfl (fun _ _ _ h => h) fun FK NK wK K => ?_
      refine WH.run 3 tt_ok rfl rfl rfl rfl trivial ?_
      refine WH.eff 0 tt_ok et_ok rfl rfl rfl rfl trivial rfl rfl ?_
      refine WH.run 1 tt_ok rfl rfl rfl rfl trivial ?_
      refine WH.nil rfl ?_
      refine QT.n ?_
      refine WC.ret ?_
      refine QT.r (QT.r ?_)
      cases H
      exact Ends.autoC tt_ok rfl rfl rfl trivial
    replace H := of_f H h5
    refine WC.skip ?_
    refine QT.n ?_
    refine WC.seq ?_
    obtain ⟨g6_7_1, H⟩ := of_need H
    obtain ⟨x6_10_1, hx6_10_1, H⟩ := of_bind H
    refine WC.heldF [(9, .ptr 109 0), (12, .ptr 112 0), (14, .d (slT enc_api_Frame x6_10_1.1))] [(109, .box 36 [.d (.int .i64 0), .d (.int .i64 0), .d (.int .i64 0), .d (.int .i64 0), .d (.int .i64 0), .d (.int .i64 0), .d (.int .i64 0), .d (.int .i64 0)]), (112, .box 36 [.d (.int .i64 (-1)), .d (.int .i64 0), .d (.int .i64 0), .d (.int .i64 0), .d (.int .i64 0), .d (.int .i64 0), .d (.int .i64 0), .d (.int .i64 0)])] (.one 0 true (.one 1 true (.one 2 true (.one 3 true (.one 4 true (.one 5 true (.one 6 true (.one 7 true (.one 8 true (.one 9 true (.one 10 false (.one 11 true (.fork (.one 12 false (.one 14 true (.one 13 false (.one 15 true .done)))) (.one 13 false (.one 12 false (.one 14 true (.one 15 true .done))))))))))))))))) [104, 109, 111, 112] [104, 109, 111, 112] rfl (by kernel_rfl) rfl (by kernel_rfl) rfl rfl (fun _ h => h) rfl rfl rfl (fun FK NK wK K => ?_) ?_
    · refine WH.run 10 tt_ok rfl rfl rfl rfl ⟨⟨(nIn_ok g6_7_1).1, (nIn_ok g6_7_1).2, rfl⟩, trivial⟩ ?_
      refine WH.call [] rfl (ref14_Call_0 _ _ _ hx6_10_1) ref14_Call_f rfl rfl trivial rfl rfl rfl rfl rfl ?_
      refine WH.mv rfl rfl rfl rfl rfl rfl rfl rfl rfl ?_
      refine WH.fork ?_ ?_
      · refine WH.val tt_ok rfl rfl rfl rfl rfl trivial rfl rfl ?_
        refine WH.mv rfl rfl rfl rfl rfl rfl rfl rfl rfl ?_
        refine WH.val tt_ok rfl rfl rfl rfl rfl trivial rfl rfl ?_
        refine WH.run 1 tt_ok rfl rfl rfl rfl trivial ?_
        exact WH.nilF rfl (LessW.mk' ⟨AVle.of rfl, AVle.of rfl, AVle.of rfl, trivial⟩ ⟨rfl, rfl, trivial⟩)
      · refine WH.val tt_ok rfl rfl rfl rfl rfl trivial rfl rfl ?_
        refine WH.val tt_ok rfl rfl rfl rfl rfl trivial rfl rfl ?_
        refine WH.mv rfl rfl rfl rfl rfl rfl rfl rfl rfl ?_
        refine WH.run 1 tt_ok rfl rfl rfl rfl trivial ?_
        exact WH.nilF rfl (LessW.mk' ⟨AVle.of rfl, AVle.of rfl, AVle.of rfl, trivial⟩ ⟨rfl, rfl, trivial⟩)
    · refine QT.n ?_
      refine WC.seq ?_
      refine WC.heldP (.one 0 true (.one 1 true (.one 2 true (.one 3 false (.one 4 true .done))))) [109, 112] [112] rfl (by kernel_rfl) rfl (by kernel_rfl) rfl rfl (fun _ h => h) rfl rfl rfl (fun _ _ _ h => h) fun FK NK wK K => ?_
      refine WH.run 3 tt_ok rfl rfl rfl rfl trivial ?_
      refine WH.eff 0 tt_ok et_ok rfl rfl rfl rfl trivial rfl rfl ?_
      refine WH.run 1 tt_ok rfl rfl rfl rfl trivial ?_
      refine WH.nil rfl ?_
      refine QT.n ?_
      refine WC.ret ?_
      refine QT.r ?_
      cases H
      exact Ends.autoC tt_ok rfl rfl rfl trivial
  replace H := of_f H h4
  refine WC.skip ?_
  refine QT.n ?_
  refine WC.seq ?_
  refine WC.seq ?_
  refine WC.region ?_
  refine WL.run 3 tt_ok sg0 rfl rfl trivial ?_
  refine WL.nil ?_
  refine QT.n ?_
  refine WC.cond rfl (fun h6 => ?_) (fun h6 => ?_)
  · replace H := of_t H h6
    refine WC.seq ?_
    refine WC.region ?_
    refine WL.run 1 tt_ok sg0 rfl rfl trivial ?_
    obtain ⟨x7, hx7, H⟩ := of_bind H
    refine WL.call [] (ref14_Ret_0 _ hx7) ref14_Ret_f rfl rfl trivial rfl rfl rfl ?_
    refine WL.run 7 tt_ok sg0 rfl rfl trivial ?_
    refine WL.nil ?_
    refine QT.n ?_
    refine WC.seq ?_
    refine WC.seq ?_
    refine WC.region ?_
    refine WL.run 3 tt_ok sg0 rfl rfl trivial ?_
    refine WL.nil ?_
    refine QT.n ?_
    obtain ⟨K8, hK8, H⟩ := of_withK H
    refine WC.cutN (fun E m => ∃ s9 : (List Int) × Int, K8 s9 = some r ∧ LessW E m [(9, .ptr 109 0), (12, .ptr 112 0), (16, .d (slT enc_api_Frame x7.1))] [(109, .box 36 [.d (.int .i64 0), .d (.int .i64 0), .d (.int .i64 0), .d (.int .i64 0), .d (.int .i64 0), .d (.int .i64 0), .d (.int .i64 0), .d (.int .i64 0)]), (112, .box 36 [.d (.int .i64 s9.2), .d (.int .i64 0), .d (.int .i64 0), .d (.int .i64 (s9.1.getD 0 default)), .d (.int .i64 (s9.1.getD 1 default)), .d (.int .i64 (s9.1.getD 2 default)), .d (.int .i64 (s9.1.getD 3 default)), .d (.int .i64 (s9.1.getD 4 default))])]) ?_ ?_
    · refine WC.cond rfl (fun h10 => ?_) (fun h10 => ?_)
      · replace H := of_t H h10
        refine WC.region ?_
        refine WL.run 2 tt_ok sg0 rfl rfl trivial ?_
        refine WL.eff 0 tt_ok et_ok eg0 rfl rfl rfl trivial ?_
        refine WL.run 1 tt_ok sg0 rfl rfl trivial ?_
        obtain ⟨g11, H⟩ := of_need H
        refine WL.yv (LJ.Y.idxPtrA 5 (0 : Int) (by kernel_rfl) rfl rfl rfl (nIn_ok g11)) rfl rfl rfl ?_
        refine WL.wo (WO.storePtrA 5 3 (fun x : Int => DV.int .i64 x) ([0, 0, 0, 0, 0] : List Int) x7.2.1 (0 : Int) (cs' := [.d (.int .i64 (-2)), .d (.int .i64 0), .d (.int .i64 0), .d (.int .i64 ((aset 5 ([0, 0, 0, 0, 0] : List Int) (0 : Int).toNat x7.2.1).getD 0 default)), .d (.int .i64 ((aset 5 ([0, 0, 0, 0, 0] : List Int) (0 : Int).toNat x7.2.1).getD 1 default)), .d (.int .i64 ((aset 5 ([0, 0, 0, 0, 0] : List Int) (0 : Int).toNat x7.2.1).getD 2 default)), .d (.int .i64 ((aset 5 ([0, 0, 0, 0, 0] : List Int) (0 : Int).toNat x7.2.1).getD 3 default)), .d (.int .i64 ((aset 5 ([0, 0, 0, 0, 0] : List Int) (0 : Int).toNat x7.2.1).getD 4 default))]) rfl rfl rfl rfl rfl (by kernel_rfl) rfl rfl (nIn_ok g11) rfl rfl rfl) rfl ?_
        refine WL.nil ?_
        refine QT.n ?_
        exact ⟨((aset 5 ([0, 0, 0, 0, 0] : List Int) (0 : Int).toNat x7.2.1), (-2)), H, LessW.mk' ⟨AVle.of rfl, AVle.of rfl, AVle.of rfl, trivial⟩ ⟨rfl, rfl, trivial⟩⟩
      replace H := of_f H h10
      refine WC.skip ?_
      refine QT.n ?_
      exact ⟨(([0, 0, 0, 0, 0] : List Int), (-1)), H, LessW.mk' ⟨AVle.of rfl, AVle.of rfl, AVle.of rfl, trivial⟩ ⟨rfl, rfl, trivial⟩⟩
    · rintro E m ⟨s9, H, hl⟩
      refine QT.n ?_
      refine WC.lessW hl ?_
      replace H := (hK8 _).symm.trans H
      try dsimp only at H
      refine WC.seq ?_
      refine WC.heldP (.one 0 true (.one 1 true (.one 2 true (.one 3 false (.one 4 true .done))))) [109, 112] [112] rfl (by kernel_rfl) rfl (by kernel_rfl) rfl rfl (fun _ h => h) rfl rfl rfl (fun _ _ _ h => h) fun FK NK wK K => ?_
      refine WH.run 3 tt_ok rfl rfl rfl rfl trivial ?_
      refine WH.eff 0 tt_ok et_ok rfl rfl rfl rfl trivial rfl rfl ?_
      refine WH.run 1 tt_ok rfl rfl rfl rfl trivial ?_
      refine WH.nil rfl ?_
      refine QT.n ?_
      refine WC.ret ?_
      refine QT.r ?_
      cases H
      exact Ends.autoC tt_ok rfl rfl rfl trivial
  replace H := of_f H h6
  refine WC.skip ?_
  refine QT.n ?_
  refine WC.seq ?_
  refine WC.region ?_
  refine WL.run 2 tt_ok sg0 rfl rfl trivial ?_
  obtain ⟨x12, hx12, H⟩ := of_bind H
  refine WL.call [] (ref06_Pops_0 _ _ hx12) ref06_Pops_f rfl rfl trivial rfl rfl rfl ?_
  obtain ⟨x13, hx13, H⟩ := of_bind H
  refine WL.call [2880] (ref14_Pop_s 2880 rfl _ _ hx13) ref14_Pop_f rfl rfl trivial rfl rfl rfl ?_
  refine WL.run 7 tt_ok sg0 rfl rfl trivial ?_
  refine WL.nil ?_
  refine QT.n ?_
  refine WC.seq ?_
  refine WC.seq ?_
  refine WC.region ?_
  refine WL.run 3 tt_ok sg0 rfl rfl trivial ?_
  refine WL.nil ?_
  refine QT.n ?_
  refine WC.cond rfl (fun h14 => ?_) (fun h14 => ?_)
  · replace H := of_t H h14
    refine WC.seq ?_
    refine WC.region ?_
    refine WL.run 7 tt_ok sg0 rfl rfl trivial ?_
    refine WL.alloc 122 tt_ok rfl rfl rfl ?_
    refine WL.eff 0 tt_ok et_ok eg0 rfl rfl rfl trivial ?_
    refine WL.nil ?_
    refine QT.n ?_
    refine WC.seq ?_
    refine WC.seq ?_
    refine WC.region ?_
    refine WL.run 1 tt_ok sg0 rfl rfl trivial ?_
    refine WL.nil ?_
    refine QT.n ?_
    refine WC.block ?_
    refine WC.loop (ι := {x : Nat × (Int × (List Int)) // ref15_Do_l16 x1 x13 x.1 x.2 = some r}) (fun x => [(9, .ptr 109 0), (19, .own 2880), (20, .d (slT enc_i64 x13.2.1)), (22, .ptr 122 0), (23, .d (.int .i64 x.1.2.1))]) (fun x => [(109, .box 36 [.d (.int .i64 0), .d (.int .i64 0), .d (.int .i64 0), .d (.int .i64 0), .d (.int .i64 0), .d (.int .i64 0), .d (.int .i64 0), .d (.int .i64 0)]), (122, .box 36 [.d (.int .i64 x1.Op), .d (.int .i64 x1.A), .d (.int .i64 x1.B), .d (.int .i64 (x.1.2.2.getD 0 default)), .d (.int .i64 (x.1.2.2.getD 1 default)), .d (.int .i64 (x.1.2.2.getD 2 default)), .d (.int .i64 (x.1.2.2.getD 3 default)), .d (.int .i64 (x.1.2.2.getD 4 default))]), (2880, .row 45 27 (x13.1.map enc_api_Frame))]) (fun x => x.1.1) ⟨(fuel, (0, ([0, 0, 0, 0, 0] : List Int))), H⟩ (Less.mk' ⟨rfl, rfl, rfl, rfl, rfl, trivial⟩ ⟨rfl, rfl, rfl, trivial⟩) fun x => ?_
    obtain ⟨⟨k16, s15⟩, H⟩ := x
    rcases k16 with _ | k16
    · exact of_none H
    rw [ref15_Do_l16] at H
    refine WC.seq ?_
    refine WC.seq ?_
    refine WC.region ?_
    refine WL.run 4 tt_ok sg0 rfl rfl trivial ?_
    refine WL.nil ?_
    refine QT.n ?_
    refine WC.cond rfl (fun h17 => ?_) (fun h17 => ?_)
    · replace H := of_t H h17
      refine WC.skip ?_
      refine QT.n ?_
      refine WC.seq ?_
      refine WC.block ?_
      refine WC.region ?_
      obtain ⟨g18, H⟩ := of_need H
      refine WL.run 6 tt_ok sg0 rfl rfl ⟨⟨(nIn_ok g18).1, (nIn_ok g18).2, rfl⟩, trivial⟩ ?_
      obtain ⟨g19, H⟩ := of_need H
      refine WL.yv (LJ.Y.idxPtrA 5 s15.1 (by kernel_rfl) rfl rfl rfl (nIn_ok g19)) rfl rfl rfl ?_
      refine WL.wo (WO.storePtrA 5 3 (fun x : Int => DV.int .i64 x) s15.2 (x13.2.1.getD s15.1.toNat default) s15.1 (cs' := [.d (.int .i64 x1.Op), .d (.int .i64 x1.A), .d (.int .i64 x1.B), .d (.int .i64 ((aset 5 s15.2 s15.1.toNat (x13.2.1.getD s15.1.toNat default)).getD 0 default)), .d (.int .i64 ((aset 5 s15.2 s15.1.toNat (x13.2.1.getD s15.1.toNat default)).getD 1 default)), .d (.int .i64 ((aset 5 s15.2 s15.1.toNat (x13.2.1.getD s15.1.toNat default)).getD 2 default)), .d (.int .i64 ((aset 5 s15.2 s15.1.toNat (x13.2.1.getD s15.1.toNat default)).getD 3 default)), .d (.int .i64 ((aset 5 s15.2 s15.1.toNat (x13.2.1.getD s15.1.toNat default)).getD 4 default))]) rfl rfl rfl rfl rfl (by kernel_rfl) rfl rfl (nIn_ok g19) rfl rfl rfl) rfl ?_
      refine WL.nil ?_
      refine QB.n (QT.n ?_)
      refine WC.region ?_
      refine WL.run 3 tt_ok sg0 rfl rfl trivial ?_
      refine WL.nil ?_
      refine QT.n ?_
      exact ⟨⟨(k16, (IntKind.i64.wrap (s15.1 + 1), (aset 5 s15.2 s15.1.toNat (x13.2.1.getD s15.1.toNat default)))), H⟩, Nat.lt_succ_self _, Less.mk' ⟨rfl, rfl, rfl, rfl, rfl, trivial⟩ ⟨rfl, rfl, rfl, trivial⟩⟩
    replace H := of_f H h17
    refine WC.exit ?_
    refine QT.x (QT.x (QB.hit (QT.n ?_)))
    refine WC.seq ?_
    refine WC.heldP (.one 0 true (.one 1 true (.one 2 true (.one 3 false (.one 4 true .done))))) [109, 122] [122] rfl (by kernel_rfl) rfl (by kernel_rfl) rfl rfl (fun _ h => h) rfl rfl rfl (fun _ _ _ h => h) fun FK NK wK K => ?_
    refine WH.mv rfl rfl rfl rfl rfl rfl rfl rfl rfl ?_
    refine WH.run 1 tt_ok rfl rfl rfl rfl trivial ?_
    refine WH.mv rfl rfl rfl rfl rfl rfl rfl rfl rfl ?_
    refine WH.eff 0 tt_ok et_ok rfl rfl rfl rfl trivial rfl rfl ?_
    refine WH.run 1 tt_ok rfl rfl rfl rfl trivial ?_
    refine WH.nil rfl ?_
    refine QT.n ?_
    refine WC.freezeT 2880 enc_api_Frame x13.1 rfl rfl rfl rfl ?_
    refine WC.ret ?_
    refine QT.r ?_
    cases H
    exact Ends.autoC tt_ok rfl rfl rfl trivial
  replace H := of_f H h14
  refine WC.skip ?_
  refine QT.n ?_
  refine WC.seq ?_
  refine WC.seq ?_
  refine WC.region ?_
  refine WL.run 3 tt_ok sg0 rfl rfl trivial ?_
  refine WL.nil ?_
  refine QT.n ?_
  refine WC.cond rfl (fun h20 => ?_) (fun h20 => ?_)
  · replace H := of_t H h20
    refine WC.seq ?_
    refine WC.heldP (.one 0 true (.one 1 true (.one 2 true (.one 3 true (.one 4 true (.one 5 true (.one 7 true (.one 6 false (.one 8 true (.one 9 false (.one 10 true .done))))))))))) [104, 109, 111, 112] [104, 111, 112] rfl (by kernel_rfl) rfl (by kernel_rfl) rfl rfl (fun _ h => h) rfl rfl rfl (fun _ _ _ h => h) fun FK NK wK K => ?_
    refine WH.mv rfl rfl rfl rfl rfl rfl rfl rfl rfl ?_
    obtain ⟨g21, H⟩ := of_need H
    refine WH.run 6 tt_ok rfl rfl rfl rfl ⟨⟨(nIn_ok g21).1, (nIn_ok g21).2, rfl⟩, trivial⟩ ?_
    refine WH.freezeT 2880 enc_api_Frame x13.1 rfl rfl rfl rfl ?_
    obtain ⟨x22, hx22, H⟩ := of_bind H
    refine WH.call [] rfl (ref14_Store_0 _ _ _ hx22) ref14_Store_f rfl rfl trivial rfl rfl rfl rfl rfl ?_
    refine WH.mv rfl rfl rfl rfl rfl rfl rfl rfl rfl ?_
    refine WH.eff 0 tt_ok et_ok rfl rfl rfl rfl trivial rfl rfl ?_
    refine WH.run 1 tt_ok rfl rfl rfl rfl trivial ?_
    refine WH.nil rfl ?_
    refine QT.n ?_
    refine WC.ret ?_
    refine QT.r ?_
    cases H
    exact Ends.autoC tt_ok rfl rfl rfl trivial
  replace H := of_f H h20
  refine WC.skip ?_
  refine QT.n ?_
  refine WC.seq ?_
  refine WC.seq ?_
  refine WC.region ?_
  refine WL.run 3 tt_ok sg0 rfl rfl trivial ?_
  refine WL.nil ?_
  refine QT.n ?_
  refine WC.cond rfl (fun h23 => ?_) (fun h23 => ?_)
  · replace H := of_t H h23
    refine WC.seq ?_
    refine WC.heldP (.one 0 true (.one 1 true (.one 2 true (.one 3 false (.one 4 true .done))))) [104, 109, 111, 112] [104, 111, 112] rfl (by kernel_rfl) rfl (by kernel_rfl) rfl rfl (fun _ h => h) rfl rfl rfl (fun _ _ _ h => h) fun FK NK wK K => ?_
    refine WH.mv rfl rfl rfl rfl rfl rfl rfl rfl rfl ?_
    refine WH.run 1 tt_ok rfl rfl rfl rfl trivial ?_
    refine WH.mv rfl rfl rfl rfl rfl rfl rfl rfl rfl ?_
    refine WH.eff 0 tt_ok et_ok rfl rfl rfl rfl trivial rfl rfl ?_
    refine WH.run 1 tt_ok rfl rfl rfl rfl trivial ?_
    refine WH.nil rfl ?_
    refine QT.n ?_
    refine WC.freezeT 2880 enc_api_Frame x13.1 rfl rfl rfl rfl ?_
    refine WC.ret ?_
    refine QT.r ?_
    cases H
    exact Ends.autoC tt_ok rfl rfl rfl trivial
  replace H := of_f H h23
  refine WC.skip ?_
  refine QT.n ?_
  refine WC.seq ?_
  refine WC.seq ?_
  refine WC.region ?_
  refine WL.run 4 tt_ok sg0 rfl rfl trivial ?_
  refine WL.sect 4 3 false tt_ok sg0 rfl rfl (fun _ => trivial) ?_
  obtain ⟨g24, H⟩ := of_needS H
  refine WL.sect 4 7 true tt_ok sg0 rfl rfl (fun hb => ⟨⟨(nIn_ok (g24 hb)).1, (nIn_ok (g24 hb)).2, rfl⟩, trivial⟩) ?_
  refine WL.sect 1 3 false tt_ok sg0 rfl rfl (fun hb => ⟨by first | exact id | exact ⟨hb, fun h => by rw [hb, h]; rfl⟩ | exact ⟨hb, id⟩ | exact fun h => by rw [hb, h]; rfl | exact fun h => by rw [h]; rfl | simp_all, trivial⟩) ?_
  refine WL.run 1 tt_ok sg0 rfl rfl ⟨by first | exact id | exact fun h => by rw [h]; rfl | simp_all, trivial⟩ ?_
  refine WL.nil ?_
  refine QT.n ?_
  refine WC.cond rfl (fun h25 => ?_) (fun h25 => ?_)
  · replace H := of_t H h25
    refine WC.seq ?_
    refine WC.heldP (.one 0 true (.one 1 true (.one 2 true (.one 4 true (.one 3 false (.one 5 true (.one 6 false (.one 7 true .done)))))))) [104, 109, 111, 112] [104, 111, 112] rfl (by kernel_rfl) rfl (by kernel_rfl) rfl rfl (fun _ h => h) rfl rfl rfl (fun _ _ _ h => h) fun FK NK wK K => ?_
    refine WH.mv rfl rfl rfl rfl rfl rfl rfl rfl rfl ?_
    refine WH.run 3 tt_ok rfl rfl rfl rfl trivial ?_
    refine WH.freezeT 2880 enc_api_Frame x13.1 rfl rfl rfl rfl ?_
    obtain ⟨x26, hx26, H⟩ := of_bind H
    refine WH.call [] rfl (ref14_Go_0 _ _ hx26) ref14_Go_f rfl rfl trivial rfl rfl rfl rfl rfl ?_
    refine WH.mv rfl rfl rfl rfl rfl rfl rfl rfl rfl ?_
    refine WH.eff 0 tt_ok et_ok rfl rfl rfl rfl trivial rfl rfl ?_
    refine WH.run 1 tt_ok rfl rfl rfl rfl trivial ?_
    refine WH.nil rfl ?_
    refine QT.n ?_
    refine WC.ret ?_
    refine QT.r ?_
    cases H
    exact Ends.autoC tt_ok rfl rfl rfl trivial
  replace H := of_f H h25
  refine WC.skip ?_
  refine QT.n ?_
  refine WC.seq ?_
  refine WC.seq ?_
  refine WC.region ?_
  refine WL.run 3 tt_ok sg0 rfl rfl trivial ?_
  refine WL.nil ?_
  refine QT.n ?_
  refine WC.cond rfl (fun h27 => ?_) (fun h27 => ?_)
  · replace H := of_t H h27
    refine WC.seq ?_
    refine WC.heldP (.one 0 true (.one 1 true (.one 2 true (.one 3 false (.one 4 true .done))))) [104, 109, 111, 112] [104, 111, 112] rfl (by kernel_rfl) rfl (by kernel_rfl) rfl rfl (fun _ h => h) rfl rfl rfl (fun _ _ _ h => h) fun FK NK wK K => ?_
    refine WH.mv rfl rfl rfl rfl rfl rfl rfl rfl rfl ?_
    refine WH.run 1 tt_ok rfl rfl rfl rfl trivial ?_
    refine WH.mv rfl rfl rfl rfl rfl rfl rfl rfl rfl ?_
    refine WH.eff 0 tt_ok et_ok rfl rfl rfl rfl trivial rfl rfl ?_
    refine WH.run 1 tt_ok rfl rfl rfl rfl trivial ?_
    refine WH.nil rfl ?_
    refine QT.n ?_
    refine WC.freezeT 2880 enc_api_Frame x13.1 rfl rfl rfl rfl ?_
    refine WC.ret ?_
    refine QT.r ?_
    cases H
    exact Ends.autoC tt_ok rfl rfl rfl trivial
  replace H := of_f H h27
  refine WC.skip ?_
  refine QT.n ?_
  refine WC.seq ?_
  refine WC.region ?_
  refine WL.run 2 tt_ok sg0 rfl rfl trivial ?_
  refine WL.nil ?_
  refine QT.n ?_
  refine WC.seq ?_
  refine WC.seq ?_
  refine WC.region ?_
  refine WL.run 3 tt_ok sg0 rfl rfl trivial ?_
  refine WL.nil ?_
  refine QT.n ?_
  obtain ⟨K28, hK28, H⟩ := of_withK H
  refine WC.cutN (fun E m => ∃ s29 : Int, K28 s29 = some r ∧ LessW E m [(1, .d (slT enc_api_Frame a1)), (2, .d (.int .i64 a2)), (3, .d (.int .i64 a3)), (9, .ptr 109 0), (11, .ptr 111 0), (12, .ptr 112 0), (19, .own 2880), (20, .d (slT enc_i64 x13.2.1)), (24, .d (.int .i64 s29)), (25, .d (.int .i64 0))] [(109, .box 36 [.d (.int .i64 0), .d (.int .i64 0), .d (.int .i64 0), .d (.int .i64 0), .d (.int .i64 0), .d (.int .i64 0), .d (.int .i64 0), .d (.int .i64 0)]), (111, .box 55 [.d (.int .i64 x1.Op), .d (.int .i64 x1.A), .d (.int .i64 x1.B)]), (112, .box 36 [.d (.int .i64 (-1)), .d (.int .i64 0), .d (.int .i64 0), .d (.int .i64 0), .d (.int .i64 0), .d (.int .i64 0), .d (.int .i64 0), .d (.int .i64 0)]), (2880, .row 45 27 (x13.1.map enc_api_Frame))]) ?_ ?_
  · refine WC.cond rfl (fun h30 => ?_) (fun h30 => ?_)
    · replace H := of_t H h30
      refine WC.region ?_
      refine WL.run 3 tt_ok sg0 rfl rfl trivial ?_
      refine WL.nil ?_
      refine QT.n ?_
      exact ⟨x1.A, H, LessW.mk' ⟨AVle.of rfl, AVle.of rfl, AVle.of rfl, AVle.of rfl, AVle.of rfl, AVle.of rfl, AVle.of rfl, AVle.of rfl, AVle.of rfl, AVle.of rfl, trivial⟩ ⟨rfl, rfl, rfl, rfl, trivial⟩⟩
    replace H := of_f H h30
    refine WC.skip ?_
    refine QT.n ?_
    exact ⟨0, H, LessW.mk' ⟨AVle.of rfl, AVle.of rfl, AVle.of rfl, AVle.of rfl, AVle.of rfl, AVle.of rfl, AVle.of rfl, AVle.of rfl, AVle.of rfl, AVle.of rfl, trivial⟩ ⟨rfl, rfl, rfl, rfl, trivial⟩⟩
  · rintro E m ⟨s29, H, hl⟩
    refine QT.n ?_
    refine WC.lessW hl ?_
    replace H := (hK28 _).symm.trans H
    try dsimp only at H
    refine WC.seq ?_
    refine WC.seq ?_
    refine WC.region ?_
    refine WL.run 3 tt_ok sg0 rfl rfl trivial ?_
    refine WL.nil ?_
    refine QT.n ?_
    refine WC.freezeT 2880 enc_api_Frame x13.1 rfl rfl rfl rfl ?_
    obtain ⟨K31, hK31, H⟩ := of_withK H
    refine WC.cutN (fun E m => ∃ s32 : Int, K31 s32 = some r ∧ LessW E m [(1, .d (slT enc_api_Frame a1)), (2, .d (.int .i64 a2)), (3, .d (.int .i64 a3)), (9, .ptr 109 0), (11, .ptr 111 0), (12, .ptr 112 0), (19, .d (slT enc_api_Frame x13.1)), (20, .d (slT enc_i64 x13.2.1)), (24, .d (.int .i64 s32)), (25, .d (.int .i64 0))] [(109, .box 36 [.d (.int .i64 0), .d (.int .i64 0), .d (.int .i64 0), .d (.int .i64 0), .d (.int .i64 0), .d (.int .i64 0), .d (.int .i64 0), .d (.int .i64 0)]), (111, .box 55 [.d (.int .i64 x1.Op), .d (.int .i64 x1.A), .d (.int .i64 x1.B)]), (112, .box 36 [.d (.int .i64 (-1)), .d (.int .i64 0), .d (.int .i64 0), .d (.int .i64 0), .d (.int .i64 0), .d (.int .i64 0), .d (.int .i64 0), .d (.int .i64 0)])]) ?_ ?_
    · refine WC.cond rfl (fun h33 => ?_) (fun h33 => ?_)
      · replace H := of_t H h33
        refine WC.region ?_
        refine WL.run 3 tt_ok sg0 rfl rfl trivial ?_
        obtain ⟨x34, hx34, H⟩ := of_bind H
        refine WL.call [] (ref14_Local_0 _ _ hx34) ref14_Local_f rfl rfl trivial rfl rfl rfl ?_
        refine WL.run 1 tt_ok sg0 rfl rfl trivial ?_
        refine WL.nil ?_
        refine QT.n ?_
        exact ⟨x34, H, LessW.mk' ⟨AVle.of rfl, AVle.of rfl, AVle.of rfl, AVle.of rfl, AVle.of rfl, AVle.of rfl, AVle.of rfl, AVle.of rfl, AVle.of rfl, AVle.of rfl, trivial⟩ ⟨rfl, rfl, rfl, trivial⟩⟩
      replace H := of_f H h33
      refine WC.skip ?_
      refine QT.n ?_
      exact ⟨s29, H, LessW.mk' ⟨AVle.of rfl, AVle.of rfl, AVle.of rfl, AVle.of rfl, AVle.of rfl, AVle.of rfl, AVle.of rfl, AVle.of rfl, AVle.of rfl, AVle.of rfl, trivial⟩ ⟨rfl, rfl, rfl, trivial⟩⟩
    · rintro E m ⟨s32, H, hl⟩
      refine QT.n ?_
      refine WC.lessW hl ?_
      replace H := (hK31 _).symm.trans H
      try dsimp only at H
      refine WC.seq ?_
      refine WC.seq ?_
      refine WC.region ?_
      refine WL.run 3 tt_ok sg0 rfl rfl trivial ?_
      refine WL.nil ?_
      refine QT.n ?_
      obtain ⟨K35, hK35, H⟩ := of_withK H
      refine WC.cutN (fun E m => ∃ s36 : Int, K35 s36 = some r ∧ LessW E m [(1, .d (slT enc_api_Frame a1)), (3, .d (.int .i64 a3)), (9, .ptr 109 0), (11, .ptr 111 0), (12, .ptr 112 0), (19, .d (slT enc_api_Frame x13.1)), (20, .d (slT enc_i64 x13.2.1)), (24, .d (.int .i64 s36)), (25, .d (.int .i64 0))] [(109, .box 36 [.d (.int .i64 0), .d (.int .i64 0), .d (.int .i64 0), .d (.int .i64 0), .d (.int .i64 0), .d (.int .i64 0), .d (.int .i64 0), .d (.int .i64 0)]), (111, .box 55 [.d (.int .i64 x1.Op), .d (.int .i64 x1.A), .d (.int .i64 x1.B)]), (112, .box 36 [.d (.int .i64 (-1)), .d (.int .i64 0), .d (.int .i64 0), .d (.int .i64 0), .d (.int .i64 0), .d (.int .i64 0), .d (.int .i64 0), .d (.int .i64 0)])]) ?_ ?_
      · refine WC.cond rfl (fun h37 => ?_) (fun h37 => ?_)
        · replace H := of_t H h37
          refine WC.region ?_
          refine WL.run 2 tt_ok sg0 rfl rfl trivial ?_
          refine WL.nil ?_
          refine QT.n ?_
          exact ⟨a2, H, LessW.mk' ⟨AVle.of rfl, AVle.of rfl, AVle.of rfl, AVle.of rfl, AVle.of rfl, AVle.of rfl, AVle.of rfl, AVle.of rfl, AVle.of rfl, trivial⟩ ⟨rfl, rfl, rfl, trivial⟩⟩
        replace H := of_f H h37
        refine WC.skip ?_
        refine QT.n ?_
        exact ⟨s32, H, LessW.mk' ⟨AVle.of rfl, AVle.of rfl, AVle.of rfl, AVle.of rfl, AVle.of rfl, AVle.of rfl, AVle.of rfl, AVle.of rfl, AVle.of rfl, trivial⟩ ⟨rfl, rfl, rfl, trivial⟩⟩
      · rintro E m ⟨s36, H, hl⟩
        refine QT.n ?_
        refine WC.lessW hl ?_
        replace H := (hK35 _).symm.trans H
        try dsimp only at H
        refine WC.seq ?_
        refine WC.seq ?_
        refine WC.region ?_
        refine WL.run 3 tt_ok sg0 rfl rfl trivial ?_
        refine WL.nil ?_
        refine QT.n ?_
        obtain ⟨K38, hK38, H⟩ := of_withK H
        refine WC.cutN (fun E m => ∃ s39 : Int, K38 s39 = some r ∧ LessW E m [(1, .d (slT enc_api_Frame a1)), (9, .ptr 109 0), (11, .ptr 111 0), (12, .ptr 112 0), (19, .d (slT enc_api_Frame x13.1)), (20, .d (slT enc_i64 x13.2.1)), (24, .d (.int .i64 s39)), (25, .d (.int .i64 0))] [(109, .box 36 [.d (.int .i64 0), .d (.int .i64 0), .d (.int .i64 0), .d (.int .i64 0), .d (.int .i64 0), .d (.int .i64 0), .d (.int .i64 0), .d (.int .i64 0)]), (111, .box 55 [.d (.int .i64 x1.Op), .d (.int .i64 x1.A), .d (.int .i64 x1.B)]), (112, .box 36 [.d (.int .i64 (-1)), .d (.int .i64 0), .d (.int .i64 0), .d (.int .i64 0), .d (.int .i64 0), .d (.int .i64 0), .d (.int .i64 0), .d (.int .i64 0)])]) ?_ ?_
        · refine WC.cond rfl (fun h40 => ?_) (fun h40 => ?_)
          · replace H := of_t H h40
            refine WC.region ?_
            refine WL.run 2 tt_ok sg0 rfl rfl trivial ?_
            refine WL.nil ?_
            refine QT.n ?_
            exact ⟨a3, H, LessW.mk' ⟨AVle.of rfl, AVle.of rfl, AVle.of rfl, AVle.of rfl, AVle.of rfl, AVle.of rfl, AVle.of rfl, AVle.of rfl, trivial⟩ ⟨rfl, rfl, rfl, trivial⟩⟩
          replace H := of_f H h40
          refine WC.skip ?_
          refine QT.n ?_
          exact ⟨s36, H, LessW.mk' ⟨AVle.of rfl, AVle.of rfl, AVle.of rfl, AVle.of rfl, AVle.of rfl, AVle.of rfl, AVle.of rfl, AVle.of rfl, trivial⟩ ⟨rfl, rfl, rfl, trivial⟩⟩
        · rintro E m ⟨s39, H, hl⟩
          refine QT.n ?_
          refine WC.lessW hl ?_
          replace H := (hK38 _).symm.trans H
          try dsimp only at H
          refine WC.seq ?_
          refine WC.seq ?_
          refine WC.region ?_
          refine WL.run 3 tt_ok sg0 rfl rfl trivial ?_
          refine WL.nil ?_
          refine QT.n ?_
          obtain ⟨K41, hK41, H⟩ := of_withK H
          refine WC.cutN (fun E m => ∃ s42 : Int × Int, K41 s42 = some r ∧ LessW E m [(1, .d (slT enc_api_Frame a1)), (9, .ptr 109 0), (11, .ptr 111 0), (12, .ptr 112 0), (19, .d (slT enc_api_Frame x13.1)), (20, .d (slT enc_i64 x13.2.1)), (24, .d (.int .i64 s42.1)), (25, .d (.int .i64 s42.2))] [(109, .box 36 [.d (.int .i64 0), .d (.int .i64 0), .d (.int .i64 0), .d (.int .i64 0), .d (.int .i64 0), .d (.int .i64 0), .d (.int .i64 0), .d (.int .i64 0)]), (111, .box 55 [.d (.int .i64 x1.Op), .d (.int .i64 x1.A), .d (.int .i64 x1.B)]), (112, .box 36 [.d (.int .i64 (-1)), .d (.int .i64 0), .d (.int .i64 0), .d (.int .i64 0), .d (.int .i64 0), .d (.int .i64 0), .d (.int .i64 0), .d (.int .i64 0)])]) ?_ ?_
          · refine WC.cond rfl (fun h43 => ?_) (fun h43 => ?_)
            · replace H := of_t H h43
              refine WC.region ?_
              obtain ⟨g44, H⟩ := of_need H
              refine WL.run 3 tt_ok sg0 rfl rfl ⟨⟨(nIn_ok g44).1, (nIn_ok g44).2, rfl⟩, trivial⟩ ?_
              obtain ⟨x45, hx45, H⟩ := of_bind H
              refine WL.call [] (ref03_Do_0 _ _ _ hx45) ref03_Do_f rfl rfl trivial rfl rfl rfl ?_
              refine WL.run 5 tt_ok sg0 rfl rfl trivial ?_
              refine WL.nil ?_
              refine QT.n ?_
              exact ⟨(x45.1, x45.2), H, LessW.mk' ⟨AVle.of rfl, AVle.of rfl, AVle.of rfl, AVle.of rfl, AVle.of rfl, AVle.of rfl, AVle.of rfl, AVle.of rfl, trivial⟩ ⟨rfl, rfl, rfl, trivial⟩⟩
            replace H := of_f H h43
            refine WC.seq ?_
            refine WC.region ?_
            refine WL.run 4 tt_ok sg0 rfl rfl trivial ?_
            refine WL.sect 3 3 true tt_ok sg0 rfl rfl (fun _ => trivial) ?_
            refine WL.run 1 tt_ok sg0 rfl rfl ⟨by first | exact id | exact fun h => by rw [h]; rfl | simp_all, trivial⟩ ?_
            refine WL.nil ?_
            refine QT.n ?_
            refine WC.cond rfl (fun h46 => ?_) (fun h46 => ?_)
            · replace H := of_t H h46
              refine WC.heldP (.one 0 true (.one 1 true (.one 2 true (.one 3 true (.one 4 true (.one 5 true (.one 6 true (.one 7 true (.one 8 false (.one 9 true (.one 10 true (.one 11 true (.one 12 true (.one 13 true .done)))))))))))))) [109, 111, 112] [109, 111, 112] rfl (by kernel_rfl) rfl (by kernel_rfl) rfl rfl (fun _ h => h) rfl rfl rfl (fun _ _ _ h => h) fun FK NK wK K => ?_
              obtain ⟨g47, H⟩ := of_need H
              obtain ⟨g48, H⟩ := of_need H
              refine WH.run 8 tt_ok rfl rfl rfl rfl ⟨⟨(nIn_ok g47).1, (nIn_ok g47).2, rfl⟩, ⟨(nIn_ok g48).1, (nIn_ok g48).2, rfl⟩, trivial⟩ ?_
              obtain ⟨x49, hx49, H⟩ := of_bind H
              refine WH.call [] rfl (ref03_Do_0 _ _ _ hx49) ref03_Do_f rfl rfl trivial rfl rfl rfl rfl rfl ?_
              refine WH.run 5 tt_ok rfl rfl rfl rfl trivial ?_
              refine WH.nil rfl ?_
              refine QT.n ?_
              exact ⟨(x49.1, x49.2), H, LessW.mk' ⟨AVle.of rfl, AVle.of rfl, AVle.of rfl, AVle.of rfl, AVle.of rfl, AVle.of rfl, AVle.of rfl, AVle.of rfl, trivial⟩ ⟨rfl, rfl, rfl, trivial⟩⟩
            replace H := of_f H h46
            refine WC.skip ?_
            refine QT.n ?_
            exact ⟨(s39, 0), H, LessW.mk' ⟨AVle.of rfl, AVle.of rfl, AVle.of rfl, AVle.of rfl, AVle.of rfl, AVle.of rfl, AVle.of rfl, AVle.of rfl, trivial⟩ ⟨rfl, rfl, rfl, trivial⟩⟩
          · rintro E m ⟨s42, H, hl⟩
            refine QT.n ?_
            refine WC.lessW hl ?_
            replace H := (hK41 _).symm.trans H
            try dsimp only at H
            refine WC.seq ?_
            refine WC.seq ?_
            refine WC.region ?_
            refine WL.run 2 tt_ok sg0 rfl rfl trivial ?_
            refine WL.nil ?_
            refine QT.n ?_
            refine WC.cond rfl (fun h50 => ?_) (fun h50 => ?_)
            · replace H := of_t H h50
              refine WC.seq ?_
              refine WC.heldP (.one 0 true (.one 1 true (.one 2 true (.one 3 true (.one 4 false (.one 5 true .done)))))) [109, 111, 112] [111, 112] rfl (by kernel_rfl) rfl (by kernel_rfl) rfl rfl (fun _ h => h) rfl rfl rfl (fun _ _ _ h => h) fun FK NK wK K => ?_
              refine WH.run 4 tt_ok rfl rfl rfl rfl trivial ?_
              refine WH.eff 0 tt_ok et_ok rfl rfl rfl rfl trivial rfl rfl ?_
              refine WH.run 1 tt_ok rfl rfl rfl rfl trivial ?_
              refine WH.nil rfl ?_
              refine QT.n ?_
              refine WC.ret ?_
              refine QT.r ?_
              cases H
              exact Ends.autoC tt_ok rfl rfl rfl trivial
            replace H := of_f H h50
            refine WC.skip ?_
            refine QT.n ?_
            refine WC.seq ?_
            refine WC.seq ?_
            refine WC.region ?_
            refine WL.run 3 tt_ok sg0 rfl rfl trivial ?_
            refine WL.nil ?_
            refine QT.n ?_
            refine WC.cond rfl (fun h51 => ?_) (fun h51 => ?_)
            · replace H := of_t H h51
              refine WC.seq ?_
              refine WC.region ?_
              obtain ⟨g52, H⟩ := of_need H
              refine WL.run 4 tt_ok sg0 rfl rfl ⟨⟨(nIn_ok g52).1, (nIn_ok g52).2, rfl⟩, trivial⟩ ?_
              obtain ⟨x53, hx53, H⟩ := of_bind H
              refine WL.call [] (ref14_Push_0 _ _ hx53) ref14_Push_f rfl rfl trivial rfl rfl rfl ?_
              refine WL.run 4 tt_ok sg0 rfl rfl trivial ?_
              refine WL.nil ?_
              refine QT.n ?_
              refine WC.region ?_
              obtain ⟨g54, H⟩ := of_need H
              refine WL.run 4 tt_ok sg0 rfl rfl ⟨⟨(nIn_ok g54).1, (nIn_ok g54).2, rfl⟩, trivial⟩ ?_
              refine WL.nil ?_
              refine QT.n ?_
              refine WC.seq ?_
              refine WC.region ?_
              refine WL.run 2 tt_ok sg0 rfl rfl trivial ?_
              obtain ⟨x55, hx55, H⟩ := of_bind H
              refine WL.call [] (ref14_Push_0 _ _ hx55) ref14_Push_f rfl rfl trivial rfl rfl rfl ?_
              refine WL.run 5 tt_ok sg0 rfl rfl trivial ?_
              refine WL.nil ?_
              refine QT.n ?_
              refine WC.seq ?_
              refine WC.heldP (.one 0 true (.one 1 true (.one 2 true (.one 3 false (.one 4 true .done))))) [109, 111, 112] [111, 112] rfl (by kernel_rfl) rfl (by kernel_rfl) rfl rfl (fun _ h => h) rfl rfl rfl (fun _ _ _ h => h) fun FK NK wK K => ?_
              refine WH.run 3 tt_ok rfl rfl rfl rfl trivial ?_
              refine WH.eff 0 tt_ok et_ok rfl rfl rfl rfl trivial rfl rfl ?_
              refine WH.run 1 tt_ok rfl rfl rfl rfl trivial ?_
              refine WH.nil rfl ?_
              refine QT.n ?_
              refine WC.ret ?_
              cases H
              exact Ends.autoC tt_ok rfl rfl rfl trivial
            replace H := of_f H h51
            refine WC.skip ?_
            refine QT.n ?_
            refine WC.seq ?_
            refine WC.region ?_
            refine WL.run 2 tt_ok sg0 rfl rfl trivial ?_
            obtain ⟨x56, hx56, H⟩ := of_bind H
            refine WL.call [] (ref14_Push_0 _ _ hx56) ref14_Push_f rfl rfl trivial rfl rfl rfl ?_
            refine WL.run 5 tt_ok sg0 rfl rfl trivial ?_
            refine WL.nil ?_
            refine QT.n ?_
            refine WC.seq ?_
            refine WC.heldP (.one 0 true (.one 1 true (.one 2 true (.one 3 false (.one 4 true .done))))) [109, 111, 112] [111, 112] rfl (by kernel_rfl) rfl (by kernel_rfl) rfl rfl (fun _ h => h) rfl rfl rfl (fun _ _ _ h => h) fun FK NK wK K => ?_
            refine WH.run 3 tt_ok rfl rfl rfl rfl trivial ?_
            refine WH.eff 0 tt_ok et_ok rfl rfl rfl rfl trivial rfl rfl ?_
            refine WH.run 1 tt_ok rfl rfl rfl rfl trivial ?_
            refine WH.nil rfl ?_
            refine QT.n ?_
            refine WC.ret ?_
            cases H
            exact Ends.autoC tt_ok rfl rfl rfl trivial
theorem ref15_Do_f : hasFunc Try.prog 11 Try.f11 := ⟨Try.func11, rfl, by kernel_rfl⟩

/-! ### logjam/logjamref15.Run -/
theorem ref15_Run_0 (a0 : T_api_Program) (a1 : Int) (a2 : List Int) (a3 : Int) {r : (List T_api_Frame) × Int} (H : ref15_Run a0 a1 a2 a3 = some r) : LJ.Spec Try.prog 17 [.d (.agg [slT enc_api_Decl a0.Decls, slT enc_sl_sl_api_Need a0.Waits, slT enc_api_Func a0.Funcs]), .d (.int .i64 a1), .d (slT enc_i64 a2), .d (.int .i64 a3)] [] (.tup [.d (slT enc_api_Frame r.1), .d (.int .i64 r.2)]) [] := by
  refine LJ.Spec.code Try.func17 rfl 64 rfl rfl [] rfl fun w0 F0 S0 B0 => ?_
  unfold ref15_Run at H
  refine WC.seq ?_
  refine WC.region ?_
  refine WL.eff 104 tt_ok et_ok eg0 rfl rfl rfl trivial ?_
  refine WL.run 2 tt_ok sg0 rfl rfl trivial ?_
  refine WL.nil ?_
  refine QT.n ?_
  refine WC.seq ?_
  refine WC.region ?_
  refine WL.run 2 tt_ok sg0 rfl rfl trivial ?_
  obtain ⟨x1, hx1, H⟩ := of_bind H
  refine WL.call [] (ref14_New_0 _ _ hx1) ref14_New_f rfl rfl trivial rfl rfl rfl ?_
  refine WL.run 1 tt_ok sg0 rfl rfl trivial ?_
  refine WL.nil ?_
  refine QT.n ?_
  refine WC.seq ?_
  refine WC.seq ?_
  refine WC.region ?_
  refine WL.run 1 tt_ok sg0 rfl rfl trivial ?_
  refine WL.nil ?_
  refine QT.n ?_
  refine WC.block ?_
  refine WC.loop (ι := {x : Nat × ((List T_api_Frame) × Int) // ref15_Run_l3 a0 a3 x.1 x.2 = some r}) (fun x => [(3, .d (.int .i64 a3)), (4, .ptr 104 0), (10, .d (slT enc_api_Frame x.1.2.1)), (11, .d (.int .i64 x.1.2.2))]) (fun x => [(104, .box 26 [.d (slT enc_api_Decl a0.Decls), .d (slT enc_sl_sl_api_Need a0.Waits), .d (slT enc_api_Func a0.Funcs)])]) (fun x => x.1.1) ⟨(fuel, (x1, 0)), H⟩ (Less.mk' ⟨rfl, rfl, rfl, rfl, trivial⟩ ⟨rfl, trivial⟩) fun x => ?_
  obtain ⟨⟨k3, s2⟩, H⟩ := x
  rcases k3 with _ | k3
  · exact of_none H
  rw [ref15_Run_l3] at H
  refine WC.seq ?_
  refine WC.seq ?_
  refine WC.region ?_
  refine WL.run 3 tt_ok sg0 rfl rfl trivial ?_
  refine WL.nil ?_
  refine QT.n ?_
  refine WC.cond rfl (fun h4 => ?_) (fun h4 => ?_)
  · replace H := of_t H h4
    refine WC.skip ?_
    refine QT.n ?_
    obtain ⟨K5, hK5, H⟩ := of_withK H
    refine WC.cut (fun E m => ∃ s6 : List T_api_Frame, K5 s6 = some r ∧ LessW E m [(3, .d (.int .i64 a3)), (4, .ptr 104 0), (10, .d (slT enc_api_Frame s6)), (11, .d (.int .i64 s2.2))] [(104, .box 26 [.d (slT enc_api_Decl a0.Decls), .d (slT enc_sl_sl_api_Need a0.Waits), .d (slT enc_api_Func a0.Funcs)])]) ?_ ?_
    · refine WC.block ?_
      refine WC.seq ?_
      refine WC.region ?_
      refine WL.run 2 tt_ok sg0 rfl rfl trivial ?_
      obtain ⟨x7, hx7, H⟩ := of_bind H
      refine WL.call [] (ref15_At_0 _ _ hx7) ref15_At_f rfl rfl trivial rfl rfl rfl ?_
      refine WL.run 1 tt_ok sg0 rfl rfl trivial ?_
      obtain ⟨x8, hx8, H⟩ := of_bind H
      refine WL.call [] (ref06_Pushes_0 _ hx8) ref06_Pushes_f rfl rfl trivial rfl rfl rfl ?_
      refine WL.run 1 tt_ok sg0 rfl rfl trivial ?_
      refine WL.nil ?_
      refine QT.n ?_
      refine WC.seq ?_
      refine WC.region ?_
      refine WL.run 2 tt_ok sg0 rfl rfl trivial ?_
      obtain ⟨x9, hx9, H⟩ := of_bind H
      refine WL.call [] (ref15_Do_0 _ _ _ _ hx9) ref15_Do_f rfl rfl trivial rfl rfl rfl ?_
      refine WL.run 4 tt_ok sg0 rfl rfl trivial ?_
      refine WL.alloc 114 tt_ok rfl rfl rfl ?_
      refine WL.run 1 tt_ok sg0 rfl rfl trivial ?_
      refine WL.eff 0 tt_ok et_ok eg0 rfl rfl rfl trivial ?_
      refine WL.run 1 tt_ok sg0 rfl rfl trivial ?_
      refine WL.nil ?_
      refine QT.n ?_
      refine WC.seq ?_
      refine WC.seq ?_
      refine WC.region ?_
      refine WL.run 3 tt_ok sg0 rfl rfl trivial ?_
      refine WL.sect 3 2 false tt_ok sg0 rfl rfl (fun _ => trivial) ?_
      refine WL.run 1 tt_ok sg0 rfl rfl ⟨by first | exact id | exact fun h => by rw [h]; rfl | simp_all, trivial⟩ ?_
      refine WL.nil ?_
      refine QT.n ?_
      refine WC.cond rfl (fun h10 => ?_) (fun h10 => ?_)
      · replace H := of_t H h10
        refine WC.seq ?_
        refine WC.region ?_
        refine WL.run 4 tt_ok sg0 rfl rfl trivial ?_
        refine WL.nil ?_
        refine QT.n ?_
        refine WC.ret ?_
        refine QT.r (QB.r (QT.r (QT.r (QB.r (QT.r ?_)))))
        cases H
        exact Ends.auto rfl rfl rfl trivial
      replace H := of_f H h10
      refine WC.skip ?_
      refine QT.n ?_
      refine WC.seq ?_
      refine WC.seq ?_
      refine WC.region ?_
      refine WL.run 1 tt_ok sg0 rfl rfl trivial ?_
      refine WL.nil ?_
      refine QT.n ?_
      refine WC.block ?_
      refine WC.loop (ι := {x : Nat × ((List T_api_Frame) × Int) // ref15_Run_l12 K5 x8 x9 x.1 x.2 = some r}) (fun x => [(3, .d (.int .i64 a3)), (4, .ptr 104 0), (11, .d (.int .i64 s2.2)), (12, .d (.int .i64 x8)), (13, .d (slT enc_api_Frame x.1.2.1)), (14, .ptr 114 0), (16, .d (.int .i64 x.1.2.2))]) (fun x => [(104, .box 26 [.d (slT enc_api_Decl a0.Decls), .d (slT enc_sl_sl_api_Need a0.Waits), .d (slT enc_api_Func a0.Funcs)]), (114, .box 36 [.d (.int .i64 x9.2.1.Op), .d (.int .i64 x9.2.1.A), .d (.int .i64 x9.2.1.B), .d (.int .i64 (x9.2.1.X.getD 0 default)), .d (.int .i64 (x9.2.1.X.getD 1 default)), .d (.int .i64 (x9.2.1.X.getD 2 default)), .d (.int .i64 (x9.2.1.X.getD 3 default)), .d (.int .i64 (x9.2.1.X.getD 4 default))])]) (fun x => x.1.1) ⟨(fuel, (x9.1, 0)), H⟩ (Less.mk' ⟨rfl, rfl, rfl, rfl, rfl, rfl, rfl, trivial⟩ ⟨rfl, rfl, trivial⟩) fun x => ?_
      obtain ⟨⟨k12, s11⟩, H⟩ := x
      rcases k12 with _ | k12
      · exact of_none H
      rw [ref15_Run_l12] at H
      refine WC.seq ?_
      refine WC.seq ?_
      refine WC.region ?_
      refine WL.run 4 tt_ok sg0 rfl rfl trivial ?_
      refine WL.sect 3 3 true tt_ok sg0 rfl rfl (fun _ => trivial) ?_
      refine WL.run 1 tt_ok sg0 rfl rfl ⟨by first | exact id | exact fun h => by rw [h]; rfl | simp_all, trivial⟩ ?_
      refine WL.nil ?_
      refine QT.n ?_
      refine WC.cond rfl (fun h13 => ?_) (fun h13 => ?_)
      · replace H := of_t H h13
        refine WC.skip ?_
        refine QT.n ?_
        refine WC.seq ?_
        refine WC.block ?_
        refine WC.region ?_
        refine WL.run 1 tt_ok sg0 rfl rfl trivial ?_
        obtain ⟨x14, hx14, H⟩ := of_bind H
        refine WL.call [] (ref14_Push_0 _ _ hx14) ref14_Push_f rfl rfl trivial rfl rfl rfl ?_
        refine WL.run 4 tt_ok sg0 rfl rfl trivial ?_
        refine WL.nil ?_
        refine QB.n (QT.n ?_)
        refine WC.region ?_
        refine WL.run 3 tt_ok sg0 rfl rfl trivial ?_
        refine WL.nil ?_
        refine QT.n ?_
        exact ⟨⟨(k12, (x14.1, IntKind.i64.wrap (s11.2 + 1))), H⟩, Nat.lt_succ_self _, Less.mk' ⟨rfl, rfl, rfl, rfl, rfl, rfl, rfl, trivial⟩ ⟨rfl, rfl, trivial⟩⟩
      replace H := of_f H h13
      refine WC.exit ?_
      refine QT.x (QT.x (QB.hit (QT.n ?_)))
      refine WC.region ?_
      refine WL.run 2 tt_ok sg0 rfl rfl trivial ?_
      refine WL.nil ?_
      refine QB.n (QT.n ?_)
      exact ⟨s11.1, H, LessW.mk' ⟨AVle.of rfl, AVle.of rfl, AVle.of rfl, AVle.of rfl, trivial⟩ ⟨rfl, trivial⟩⟩
    · rintro E m ⟨s6, H, hl⟩
      refine WC.lessW hl ?_
      replace H := (hK5 _).symm.trans H
      try dsimp only at H
      refine WC.region ?_
      refine WL.run 3 tt_ok sg0 rfl rfl trivial ?_
      refine WL.nil ?_
      refine QT.n ?_
      exact ⟨⟨(k3, (s6, IntKind.i64.wrap (s2.2 + 1))), H⟩, Nat.lt_succ_self _, Less.mk' ⟨rfl, rfl, rfl, rfl, trivial⟩ ⟨rfl, trivial⟩⟩
  replace H := of_f H h4
  refine WC.exit ?_
  refine QT.x (QT.x (QB.hit (QT.n ?_)))
  refine WC.seq ?_
  refine WC.region ?_
  refine WL.run 4 tt_ok sg0 rfl rfl trivial ?_
  refine WL.nil ?_
  refine QT.n ?_
  refine WC.ret ?_
  cases H
  exact Ends.auto rfl rfl rfl trivial
theorem ref15_Run_f : hasFunc Try.prog 17 Try.f17 := ⟨Try.func17, rfl, by kernel_rfl⟩

/-! ### logjam/logjamlaw15.begun -/
theorem law15_begun_0 (a0 : T_api_Program) (a1 : T_law15_Start) {r : (List T_api_Frame) × Bool} (H : law15_begun a0 a1 = some r) : LJ.Spec Try.prog 7 [.d (.agg [slT enc_api_Decl a0.Decls, slT enc_sl_sl_api_Need a0.Waits, slT enc_api_Func a0.Funcs]), .d (.agg [.int .i64 a1.Fn, slT enc_i64 a1.Args, .int .i64 a1.Steps, .int .i64 a1.Self, .int .i64 a1.Now])] [] (.tup [.d (slT enc_api_Frame r.1), .d (.bool r.2)]) [] := by
  refine LJ.Spec.code Try.func7 rfl 43 rfl rfl [] rfl fun w0 F0 S0 B0 => ?_
  unfold law15_begun at H
  refine WC.seq ?_
  refine WC.region ?_
  refine WL.eff 102 tt_ok et_ok eg0 rfl rfl rfl trivial ?_
  refine WL.eff 103 tt_ok et_ok eg0 rfl rfl rfl trivial ?_
  refine WL.run 2 tt_ok sg0 rfl rfl trivial ?_
  refine WL.nil ?_
  refine QT.n ?_
  refine WC.seq ?_
  refine WC.seq ?_
  refine WC.region ?_
  refine WL.run 1 tt_ok sg0 rfl rfl trivial ?_
  obtain ⟨x1, hx1, H⟩ := of_bind H
  refine WL.call [] (ref12_Good_0 _ hx1) ref12_Good_f rfl rfl trivial rfl rfl rfl ?_
  refine WL.run 2 tt_ok sg0 rfl rfl trivial ?_
  refine WL.sect 3 3 false tt_ok sg0 rfl rfl (fun _ => trivial) ?_
  refine WL.run 2 tt_ok sg0 rfl rfl ⟨by first | exact id | exact fun h => by rw [h]; rfl | simp_all, trivial⟩ ?_
  refine WL.sect 6 8 false tt_ok sg0 rfl rfl (fun _ => trivial) ?_
  refine WL.run 2 tt_ok sg0 rfl rfl ⟨by first | exact id | exact fun h => by rw [h]; rfl | simp_all, trivial⟩ ?_
  refine WL.sect 4 16 false tt_ok sg0 rfl rfl (fun _ => trivial) ?_
  refine WL.run 1 tt_ok sg0 rfl rfl ⟨by first | exact id | exact fun h => by rw [h]; rfl | simp_all, trivial⟩ ?_
  refine WL.nil ?_
  refine QT.n ?_
  refine WC.cond rfl (fun h2 => ?_) (fun h2 => ?_)
  · replace H := of_t H h2
    refine WC.seq ?_
    refine WC.region ?_
    refine WL.run 2 tt_ok sg0 rfl rfl trivial ?_
    refine WL.nil ?_
    refine QT.n ?_
    refine WC.nilT 4 enc_api_Frame rfl ?_
    refine WC.ret ?_
    refine QT.r ?_
    cases H
    exact Ends.auto rfl rfl rfl trivial
  replace H := of_f H h2
  refine WC.skip ?_
  refine QT.n ?_
  refine WC.seq ?_
  refine WC.region ?_
  refine WL.run 7 tt_ok sg0 rfl rfl trivial ?_
  refine WL.yv (LJ.Y.min rfl rfl rfl) rfl rfl rfl ?_
  obtain ⟨x3, hx3, H⟩ := of_bind H
  refine WL.call [] (ref15_Run_0 _ _ _ _ hx3) ref15_Run_f rfl rfl trivial rfl rfl rfl ?_
  refine WL.run 5 tt_ok sg0 rfl rfl trivial ?_
  refine WL.nil ?_
  refine QT.n ?_
  refine WC.seq ?_
  refine WC.region ?_
  refine WL.run 3 tt_ok sg0 rfl rfl trivial ?_
  refine WL.nil ?_
  refine QT.n ?_
  refine WC.ret ?_
  cases H
  exact Ends.auto rfl rfl rfl trivial
theorem law15_begun_f : hasFunc Try.prog 7 Try.f7 := ⟨Try.func7, rfl, by kernel_rfl⟩

/-! ### logjam/exec.at -/
theorem exec_at_0 (a0 : T_api_Program) (a1 : List T_api_Frame) {r : T_api_Ins × Int × Bool} (H : exec_at a0 a1 = some r) : LJ.Spec Try.prog 18 [.d (.agg [slT enc_api_Decl a0.Decls, slT enc_sl_sl_api_Need a0.Waits, slT enc_api_Func a0.Funcs]), .d (slT enc_api_Frame a1)] [] (.tup [.d (.agg [.int .i64 r.1.Op, .int .i64 r.1.A, .int .i64 r.1.B]), .d (.int .i64 r.2.1), .d (.bool r.2.2)]) [] := by
  refine LJ.Spec.code Try.func18 rfl 61 rfl rfl [] rfl fun w0 F0 S0 B0 => ?_
  unfold exec_at at H
  refine WC.seq ?_
  refine WC.region ?_
  refine WL.eff 102 tt_ok et_ok eg0 rfl rfl rfl trivial ?_
  refine WL.alloc 104 tt_ok rfl rfl rfl ?_
  refine WL.run 2 tt_ok sg0 rfl rfl trivial ?_
  refine WL.nil ?_
  refine QT.n ?_
  refine WC.seq ?_
  refine WC.seq ?_
  refine WC.region ?_
  refine WL.run 3 tt_ok sg0 rfl rfl trivial ?_
  refine WL.nil ?_
  refine QT.n ?_
  refine WC.cond rfl (fun h1 => ?_) (fun h1 => ?_)
  · replace H := of_t H h1
    refine WC.seq ?_
    refine WC.region ?_
    refine WL.run 1 tt_ok sg0 rfl rfl trivial ?_
    refine WL.eff 0 tt_ok et_ok eg0 rfl rfl rfl trivial ?_
    refine WL.run 2 tt_ok sg0 rfl rfl trivial ?_
    refine WL.nil ?_
    refine QT.n ?_
    refine WC.ret ?_
    refine QT.r ?_
    cases H
    exact Ends.autoC tt_ok rfl rfl rfl trivial
  replace H := of_f H h1
  refine WC.skip ?_
  refine QT.n ?_
  refine WC.seq ?_
  refine WC.region ?_
  obtain ⟨g2, H⟩ := of_need H
  refine WL.run 6 tt_ok sg0 rfl rfl ⟨⟨(nIn_ok g2).1, (nIn_ok g2).2, rfl⟩, trivial⟩ ?_
  refine WL.alloc 107 tt_ok rfl rfl rfl ?_
  refine WL.eff 0 tt_ok et_ok eg0 rfl rfl rfl trivial ?_
  refine WL.nil ?_
  refine QT.n ?_
  refine WC.seq ?_
  refine WC.seq ?_
  refine WC.heldP (.one 0 true (.one 1 true (.one 2 true (.one 3 true (.one 4 true (.one 5 true (.one 6 true (.one 7 true (.one 8 true (.one 9 true (.one 10 true (.one 11 true (.one 12 true (.one 13 true (.one 14 true (.one 15 true (.one 16 true (.one 17 true (.one 18 true (.one 19 true (.one 20 true (.one 21 true (.one 22 true (.one 23 true (.one 24 true (.one 25 true (.one 26 true (.one 27 true (.one 28 true .done))))))))))))))))))))))))))))) [102, 104, 107] [102, 104, 107] rfl (by kernel_rfl) rfl (by kernel_rfl) rfl rfl (fun _ h => h) rfl rfl rfl (fun _ _ _ h => h) fun FK NK wK K => ?_
  refine WH.run 4 tt_ok rfl rfl rfl rfl trivial ?_
  refine WH.sect 6 3 false tt_ok rfl rfl rfl rfl (fun _ => trivial) ?_
  refine WH.run 2 tt_ok rfl rfl rfl rfl ⟨by first | exact id | exact fun h => by rw [h]; rfl | simp_all, trivial⟩ ?_
  refine WH.sect 3 11 false tt_ok rfl rfl rfl rfl (fun _ => trivial) ?_
  refine WH.run 2 tt_ok rfl rfl rfl rfl ⟨by first | exact id | exact fun h => by rw [h]; rfl | simp_all, trivial⟩ ?_
  obtain ⟨g3, H⟩ := of_needS H
  refine WH.sect 11 16 false tt_ok rfl rfl rfl rfl (fun hb => ⟨⟨(nIn_ok (g3 hb)).1, (nIn_ok (g3 hb)).2, rfl⟩, trivial⟩) ?_
  refine WH.run 1 tt_ok rfl rfl rfl rfl ⟨by first | exact id | exact fun h => by rw [h]; rfl | simp_all, trivial⟩ ?_
  refine WH.nil rfl ?_
  refine QT.n ?_
  refine WC.cond rfl (fun h4 => ?_) (fun h4 => ?_)
  · replace H := of_t H h4
    refine WC.seq ?_
    refine WC.region ?_
    refine WL.run 1 tt_ok sg0 rfl rfl trivial ?_
    refine WL.eff 0 tt_ok et_ok eg0 rfl rfl rfl trivial ?_
    refine WL.run 2 tt_ok sg0 rfl rfl trivial ?_
    refine WL.nil ?_
    refine QT.n ?_
    refine WC.ret ?_
    refine QT.r ?_
    cases H
    exact Ends.autoC tt_ok rfl rfl rfl trivial
  replace H := of_f H h4
  refine WC.skip ?_
  refine QT.n ?_
  refine WC.seq ?_
  refine WC.heldP (.one 0 true (.one 1 true (.one 2 true (.one 3 true (.one 4 true (.one 5 true (.one 6 true (.one 7 true (.one 8 true (.one 9 true (.one 10 true (.one 11 true (.one 12 true (.one 13 false (.one 14 true (.one 15 true .done)))))))))))))))) [102, 104, 107] [102, 107] rfl (by kernel_rfl) rfl (by kernel_rfl) rfl rfl (fun _ h => h) rfl rfl rfl (fun _ _ _ h => h) fun FK NK wK K => ?_
  obtain ⟨g5, H⟩ := of_need H
  obtain ⟨g6, H⟩ := of_need H
  refine WH.run 13 tt_ok rfl rfl rfl rfl ⟨⟨(nIn_ok g5).1, (nIn_ok g5).2, rfl⟩, ⟨(nIn_ok g6).1, (nIn_ok g6).2, rfl⟩, trivial⟩ ?_
  refine WH.eff 0 tt_ok et_ok rfl rfl rfl rfl trivial rfl rfl ?_
  refine WH.run 2 tt_ok rfl rfl rfl rfl trivial ?_
  refine WH.nil rfl ?_
  refine QT.n ?_
  refine WC.ret ?_
  cases H
  exact Ends.autoC tt_ok rfl rfl rfl trivial
theorem exec_at_f : hasFunc Try.prog 18 Try.f18 := ⟨Try.func18, rfl, by kernel_rfl⟩

/-! ### logjam/frame.last -/
theorem frame_last_n_0 (a0 : List T_api_Frame) (hA : (iEq (a0.length : Int) 0) = true) {r : List T_api_Frame} (H : frame_last_n a0 = some r) : LJ.Spec Try.prog 42 [.d (slT enc_api_Frame a0)] [] (.tup [.d (slT enc_api_Frame r), .d (.nilp)]) [] := by
  refine LJ.Spec.code Try.func42 rfl 17 rfl rfl [] rfl fun w0 F0 S0 B0 => ?_
  unfold frame_last_n at H
  refine WC.seq ?_
  refine WC.region ?_
  refine WL.run 2 tt_ok sg0 rfl rfl trivial ?_
  refine WL.nil ?_
  refine QT.n ?_
  refine WC.seq ?_
  refine WC.seq ?_
  refine WC.region ?_
  refine WL.run 3 tt_ok sg0 rfl rfl trivial ?_
  refine WL.nil ?_
  refine QT.n ?_
  refine WC.cond rfl (fun h => ?_) (fun h => absurd (hA.symm.trans h) (by decide))
  refine WC.seq ?_
  refine WC.region ?_
  refine WL.run 2 tt_ok sg0 rfl rfl trivial ?_
  refine WL.nil ?_
  refine QT.n ?_
  refine WC.nilT 2 enc_api_Frame rfl ?_
  refine WC.ret ?_
  refine QT.r ?_
  cases H
  exact Ends.auto rfl rfl rfl trivial
theorem frame_last_n_f : hasFunc Try.prog 42 Try.f42 := ⟨Try.func42, rfl, by kernel_rfl⟩

/-! ### logjam/frame.last -/
theorem frame_last_o_0 (a0 : List T_api_Frame) (hA : (iEq (a0.length : Int) 0) = false) {r : List T_api_Frame} (H : frame_last_o a0 = some r) : LJ.Spec Try.prog 42 [.d (slT enc_api_Frame a0)] [] (.tup [.own 0, .rel 0 ((IntKind.i64.wrap ((((([] : List T_api_Frame) ++ a0).map enc_api_Frame).length : Int) - 1)).toNat * 27)]) [(0, .row 45 27 (r.map enc_api_Frame))] := by
  refine LJ.Spec.code Try.func42 rfl 17 rfl rfl [] rfl fun w0 F0 S0 B0 => ?_
  unfold frame_last_o at H
  refine WC.seq ?_
  refine WC.region ?_
  refine WL.run 2 tt_ok sg0 rfl rfl trivial ?_
  refine WL.nil ?_
  refine QT.n ?_
  refine WC.seq ?_
  refine WC.seq ?_
  refine WC.region ?_
  refine WL.run 3 tt_ok sg0 rfl rfl trivial ?_
  refine WL.nil ?_
  refine QT.n ?_
  refine WC.cond rfl (fun h => absurd (hA.symm.trans h) (by decide)) (fun h => ?_)
  refine WC.skip ?_
  refine QT.n ?_
  refine WC.seq ?_
  refine WC.region ?_
  refine WL.eff 0 tt_ok et_ok eg0 rfl rfl rfl trivial ?_
  refine WL.run 1 tt_ok sg0 rfl rfl trivial ?_
  refine WL.row 0 (([] : List T_api_Frame).map enc_api_Frame) rfl rfl rfl ?_
  obtain ⟨g1, H⟩ := of_need H
  refine WL.appT enc_api_Frame ([] : List T_api_Frame) a0 tt_ok et_ok rfl rfl (fun _ => rfl) (fun _ => rfl) rfl rfl rfl rfl (nCap_ok g1) rfl rfl rfl rfl rfl ?_
  refine WL.run 1 tt_ok sg0 rfl rfl trivial ?_
  refine WL.nil ?_
  refine QT.n ?_
  refine WC.seq ?_
  refine WC.heldP (.one 0 true (.one 1 true (.one 2 true (.one 6 true (.one 3 false (.one 4 true (.one 5 false (.one 7 true .done)))))))) [] [] rfl (by kernel_rfl) rfl (by kernel_rfl) rfl rfl (fun _ h => h) rfl rfl rfl (fun _ _ _ h => h) fun FK NK wK K => ?_
  refine WH.mv rfl rfl rfl rfl rfl rfl rfl rfl rfl ?_
  refine WH.mv rfl rfl rfl rfl rfl rfl rfl rfl rfl ?_
  refine WH.mv rfl rfl rfl rfl rfl rfl rfl rfl rfl ?_
  refine WH.mv rfl rfl rfl rfl rfl rfl rfl rfl rfl ?_
  refine WH.val tt_ok rfl rfl rfl rfl rfl trivial rfl rfl ?_
  refine WH.run 1 tt_ok rfl rfl rfl rfl trivial ?_
  obtain ⟨g2, H⟩ := of_need H
  refine WH.yvs rfl (LJ.Y.idxRel enc_api_Frame (([] : List T_api_Frame) ++ a0) (IntKind.i64.wrap ((((([] : List T_api_Frame) ++ a0).map enc_api_Frame).length : Int) - 1)) tt_ok rfl rfl rfl rfl rfl (nIn_ok g2)) rfl rfl rfl rfl rfl ?_
  refine WH.mv rfl rfl rfl rfl rfl rfl rfl rfl rfl ?_
  refine WH.nil rfl ?_
  refine QT.n ?_
  refine WC.ret ?_
  cases H
  exact Ends.auto rfl rfl rfl ⟨rfl, trivial⟩
theorem frame_last_o_s (n0 : Nat) (hn : nodupB [n0] = true) (a0 : List T_api_Frame) (hA : (iEq (a0.length : Int) 0) = false) {r : List T_api_Frame} (H : frame_last_o a0 = some r) : LJ.Spec Try.prog 42 [.d (slT enc_api_Frame a0)] [] (.tup [.own n0, .rel n0 ((IntKind.i64.wrap ((((([] : List T_api_Frame) ++ a0).map enc_api_Frame).length : Int) - 1)).toNat * 27)]) [(n0, .row 45 27 (r.map enc_api_Frame))] :=
  Spec.names [n0] hn rfl rfl (frame_last_o_0 a0 hA H)
theorem frame_last_o_f : hasFunc Try.prog 42 Try.f42 := ⟨Try.func42, rfl, by kernel_rfl⟩

/-! ### logjam/frame.Go -/
theorem frame_Go_0 (a0 : List T_api_Frame) (a1 : Int) {r : List T_api_Frame} (H : frame_Go a0 a1 = some r) : LJ.Spec Try.prog 20 [.d (slT enc_api_Frame a0), .d (.int .i64 a1)] [] (.d (slT enc_api_Frame r)) [] := by
  refine LJ.Spec.code Try.func20 rfl 19 rfl rfl [] rfl fun w0 F0 S0 B0 => ?_
  unfold frame_Go at H
  refine WC.seq ?_
  refine WC.region ?_
  refine WL.run 1 tt_ok sg0 rfl rfl trivial ?_
  refine WL.nil ?_
  refine QT.n ?_
  refine WC.seq ?_
  refine WC.region ?_
  refine WL.run 1 tt_ok sg0 rfl rfl trivial ?_
  cases h1 : iEq (a0.length : Int) 0
  · replace H := of_f H h1
    obtain ⟨x2, hx2, H⟩ := of_bind H
    refine WL.call [2090] (frame_last_o_s 2090 rfl _ h1 hx2) frame_last_o_f rfl rfl trivial rfl rfl rfl ?_
    obtain ⟨g3, H⟩ := of_need H
    refine WL.run 5 tt_ok sg0 rfl rfl trivial ?_
    refine WL.nil ?_
    refine QT.n ?_
    refine WC.seq ?_
    refine WC.seq ?_
    refine WC.region ?_
    refine WL.run 1 tt_ok sg0 rfl rfl trivial ?_
    refine WL.yv (LJ.Y.rne rfl rfl rfl (by kernel_rfl)) rfl rfl rfl ?_
    refine WL.nil ?_
    refine QT.n ?_
    refine WC.cond rfl (fun h => ?_) (fun h => absurd h (by decide))
    refine WC.region ?_
    refine WL.run 3 tt_ok sg0 rfl rfl trivial ?_
    refine WL.yv (LJ.Y.fieldRel (fo := 1) rfl rfl (by kernel_rfl)) rfl rfl rfl ?_
    refine WL.storeRel enc_api_Frame x2 (IntKind.i64.wrap ((((([] : List T_api_Frame) ++ a0).map enc_api_Frame).length : Int) - 1)) 1 (⟨(x2.getD (IntKind.i64.wrap ((((([] : List T_api_Frame) ++ a0).map enc_api_Frame).length : Int) - 1)).toNat default).Fn, a1, (x2.getD (IntKind.i64.wrap ((((([] : List T_api_Frame) ++ a0).map enc_api_Frame).length : Int) - 1)).toNat default).N, ((x2.getD (IntKind.i64.wrap ((((([] : List T_api_Frame) ++ a0).map enc_api_Frame).length : Int) - 1)).toNat default).L), ((x2.getD (IntKind.i64.wrap ((((([] : List T_api_Frame) ++ a0).map enc_api_Frame).length : Int) - 1)).toNat default).S)⟩ : T_api_Frame) (.int .i64 a1) rfl rfl rfl rfl (fun _ => rfl) rfl (by kernel_rfl) rfl rfl (by first | exact nIn_ok g3 | (have := nIn_ok g3; simpa only [List.length_set, List.length_map] using this)) rfl rfl rfl rfl ?_
    refine WL.nil ?_
    refine QT.n ?_
    refine WC.seq ?_
    refine WC.region ?_
    refine WL.run 2 tt_ok sg0 rfl rfl trivial ?_
    refine WL.nil ?_
    refine QT.n ?_
    refine WC.freezeT 2090 enc_api_Frame (x2.set (IntKind.i64.wrap ((((([] : List T_api_Frame) ++ a0).map enc_api_Frame).length : Int) - 1)).toNat (⟨(x2.getD (IntKind.i64.wrap ((((([] : List T_api_Frame) ++ a0).map enc_api_Frame).length : Int) - 1)).toNat default).Fn, a1, (x2.getD (IntKind.i64.wrap ((((([] : List T_api_Frame) ++ a0).map enc_api_Frame).length : Int) - 1)).toNat default).N, ((x2.getD (IntKind.i64.wrap ((((([] : List T_api_Frame) ++ a0).map enc_api_Frame).length : Int) - 1)).toNat default).L), ((x2.getD (IntKind.i64.wrap ((((([] : List T_api_Frame) ++ a0).map enc_api_Frame).length : Int) - 1)).toNat default).S)⟩ : T_api_Frame)) rfl rfl rfl rfl ?_
    refine WC.ret ?_
    cases H
    exact Ends.auto rfl rfl rfl trivial
  · replace H := of_t H h1
    obtain ⟨x4, hx4, H⟩ := of_bind H
    refine WL.call [] (frame_last_n_0 _ h1 hx4) frame_last_n_f rfl rfl trivial rfl rfl rfl ?_
    refine WL.run 5 tt_ok sg0 rfl rfl trivial ?_
    refine WL.nil ?_
    refine QT.n ?_
    refine WC.seq ?_
    refine WC.seq ?_
    refine WC.region ?_
    refine WL.run 2 tt_ok sg0 rfl rfl trivial ?_
    refine WL.nil ?_
    refine QT.n ?_
    refine WC.cond rfl (fun h => absurd h (by decide)) (fun h => ?_)
    refine WC.skip ?_
    refine QT.n ?_
    refine WC.seq ?_
    refine WC.region ?_
    refine WL.run 2 tt_ok sg0 rfl rfl trivial ?_
    refine WL.nil ?_
    refine QT.n ?_
    refine WC.ret ?_
    cases H
    exact Ends.auto rfl rfl rfl trivial
theorem frame_Go_f : hasFunc Try.prog 20 Try.f20 := ⟨Try.func20, rfl, by kernel_rfl⟩

/-! ### logjam/frame.Pop -/
theorem frame_Pop_0 (a0 : List T_api_Frame) (a1 : Int) {r : (List T_api_Frame) × (List Int) × Bool} (H : frame_Pop a0 a1 = some r) : LJ.Spec Try.prog 22 [.d (slT enc_api_Frame a0), .d (.int .i64 a1)] [] (.tup [.own 0, .d (slT enc_i64 r.2.1), .d (.bool r.2.2)]) [(0, .row 45 27 (r.1.map enc_api_Frame))] := by
  refine LJ.Spec.code Try.func22 rfl 76 rfl rfl [] rfl fun w0 F0 S0 B0 => ?_
  unfold frame_Pop at H
  refine WC.seq ?_
  refine WC.region ?_
  refine WL.run 3 tt_ok sg0 rfl rfl trivial ?_
  refine WL.nil ?_
  refine QT.n ?_
  refine WC.seq ?_
  refine WC.region ?_
  refine WL.run 1 tt_ok sg0 rfl rfl trivial ?_
  cases h1 : iEq (a0.length : Int) 0
  · replace H := of_f H h1
    obtain ⟨x2, hx2, H⟩ := of_bind H
    refine WL.call [0] (frame_last_o_s 0 rfl _ h1 hx2) frame_last_o_f rfl rfl trivial rfl rfl rfl ?_
    obtain ⟨g3, H⟩ := of_need H
    refine WL.run 5 tt_ok sg0 rfl rfl trivial ?_
    refine WL.nil ?_
    refine QT.n ?_
    refine WC.seq ?_
    refine WC.seq ?_
    refine WC.region ?_
    refine WL.run 1 tt_ok sg0 rfl rfl trivial ?_
    refine WL.yv (LJ.Y.req rfl rfl rfl (by kernel_rfl)) rfl rfl rfl ?_
    refine WL.run 1 tt_ok sg0 rfl rfl trivial ?_
    refine WL.grun 2 2 false 17 tt_ok sg0 rfl rfl rfl rfl trivial ?_
    refine WL.pickF rfl rfl rfl rfl rfl rfl ?_
    refine WL.run 1 tt_ok sg0 rfl rfl trivial ?_
    refine WL.split (g := 21) rfl (fun h4 => ?_) (fun h4 => ?_)
    · replace H := of_t H h4
      refine WL.gskips 6 6 false 21 rfl rfl rfl rfl ?_
      refine WL.pickT rfl rfl rfl rfl rfl rfl ?_
      refine WL.run 1 tt_ok sg0 rfl rfl trivial ?_
      refine WL.gskips 5 14 false 29 rfl rfl rfl rfl ?_
      refine WL.pickT rfl rfl rfl rfl rfl rfl ?_
      refine WL.nil ?_
      refine QT.n ?_
      refine WC.cond rfl (fun h => ?_) (fun h => absurd h (by decide))
      refine WC.seq ?_
      refine WC.region ?_
      refine WL.run 3 tt_ok sg0 rfl rfl trivial ?_
      refine WL.nil ?_
      refine QT.n ?_
      refine WC.nilrow (t := 4) 0 45 27 rfl rfl rfl ?_
      refine WC.row 0 (([] : List T_api_Frame).map enc_api_Frame) rfl rfl rfl ?_
      refine WC.nilT 5 enc_i64 rfl ?_
      refine WC.ret ?_
      refine QT.r ?_
      cases H
      exact Ends.auto rfl rfl rfl ⟨rfl, trivial⟩
    · replace H := of_f H h4
      refine WL.grun 3 6 false 21 tt_ok sg0 rfl rfl rfl rfl trivial ?_
      refine WL.gyv (LJ.Y.fieldRel (fo := 2) rfl rfl (by kernel_rfl)) rfl rfl rfl rfl rfl rfl ?_
      refine WL.gyv (LJ.Y.loadRel enc_api_Frame x2 (IntKind.i64.wrap ((((([] : List T_api_Frame) ++ a0).map enc_api_Frame).length : Int) - 1)) 2 rfl rfl (fun _ => rfl) rfl (by kernel_rfl) rfl (by first | exact nIn_ok g3 | (have := nIn_ok g3; simpa only [List.length_set, List.length_map] using this))) rfl rfl rfl rfl rfl rfl ?_
      refine WL.grun 1 6 false 21 tt_ok sg0 rfl rfl rfl rfl trivial ?_
      refine WL.pickF rfl rfl rfl rfl rfl rfl ?_
      refine WL.run 1 tt_ok sg0 rfl rfl trivial ?_
      refine WL.split (g := 29) rfl (fun h5 => ?_) (fun h5 => ?_)
      · replace H := of_t H h5
        refine WL.gskips 5 14 false 29 rfl rfl rfl rfl ?_
        refine WL.pickT rfl rfl rfl rfl rfl rfl ?_
        refine WL.nil ?_
        refine QT.n ?_
        refine WC.cond rfl (fun h => ?_) (fun h => absurd h (by decide))
        refine WC.seq ?_
        refine WC.region ?_
        refine WL.run 3 tt_ok sg0 rfl rfl trivial ?_
        refine WL.nil ?_
        refine QT.n ?_
        refine WC.nilrow (t := 4) 0 45 27 rfl rfl rfl ?_
        refine WC.row 0 (([] : List T_api_Frame).map enc_api_Frame) rfl rfl rfl ?_
        refine WC.nilT 5 enc_i64 rfl ?_
        refine WC.ret ?_
        refine QT.r ?_
        cases H
        exact Ends.auto rfl rfl rfl ⟨rfl, trivial⟩
      · replace H := of_f H h5
        refine WL.grun 2 14 false 29 tt_ok sg0 rfl rfl rfl rfl trivial ?_
        refine WL.gyv (LJ.Y.fieldRel (fo := 2) rfl rfl (by kernel_rfl)) rfl rfl rfl rfl rfl rfl ?_
        refine WL.gyv (LJ.Y.loadRel enc_api_Frame x2 (IntKind.i64.wrap ((((([] : List T_api_Frame) ++ a0).map enc_api_Frame).length : Int) - 1)) 2 rfl rfl (fun _ => rfl) rfl (by kernel_rfl) rfl (by first | exact nIn_ok g3 | (have := nIn_ok g3; simpa only [List.length_set, List.length_map] using this))) rfl rfl rfl rfl rfl rfl ?_
        refine WL.grun 1 14 false 29 tt_ok sg0 rfl rfl rfl rfl trivial ?_
        refine WL.pickF rfl rfl rfl rfl rfl rfl ?_
        refine WL.nil ?_
        refine QT.n ?_
        refine WC.cond rfl (fun h6 => ?_) (fun h6 => ?_)
        · replace H := of_t H h6
          refine WC.seq ?_
          refine WC.region ?_
          refine WL.run 3 tt_ok sg0 rfl rfl trivial ?_
          refine WL.nil ?_
          refine QT.n ?_
          refine WC.nilrow (t := 4) 0 45 27 rfl rfl rfl ?_
          refine WC.row 0 (([] : List T_api_Frame).map enc_api_Frame) rfl rfl rfl ?_
          refine WC.nilT 5 enc_i64 rfl ?_
          refine WC.ret ?_
          refine QT.r ?_
          cases H
          exact Ends.auto rfl rfl rfl ⟨rfl, trivial⟩
        replace H := of_f H h6
        refine WC.skip ?_
        refine QT.n ?_
        refine WC.seq ?_
        refine WC.heldP (.one 1 true (.one 2 true (.one 3 true (.one 4 true (.one 5 true (.one 6 true (.one 7 true (.one 8 true (.one 9 true (.one 10 true (.one 11 true (.one 12 true (.one 13 true (.one 14 true (.one 0 false (.one 15 false (.one 16 true .done))))))))))))))))) [0, 1000000] [0] rfl (by kernel_rfl) rfl (by kernel_rfl) rfl rfl (fun _ h => h) rfl rfl rfl (fun _ _ _ h => h) fun FK NK wK K => ?_
        refine WH.run 2 tt_ok rfl rfl rfl rfl trivial ?_
        refine WH.yv rfl (LJ.Y.fieldRel (fo := 11) rfl rfl (by kernel_rfl)) rfl rfl rfl ?_
        refine WH.run 2 tt_ok rfl rfl rfl rfl trivial ?_
        refine WH.yv rfl (LJ.Y.fieldRel (fo := 2) rfl rfl (by kernel_rfl)) rfl rfl rfl ?_
        refine WH.yv rfl (LJ.Y.loadRel enc_api_Frame x2 (IntKind.i64.wrap ((((([] : List T_api_Frame) ++ a0).map enc_api_Frame).length : Int) - 1)) 2 rfl rfl (fun _ => rfl) rfl (by kernel_rfl) rfl (by first | exact nIn_ok g3 | (have := nIn_ok g3; simpa only [List.length_set, List.length_map] using this))) rfl rfl rfl ?_
        refine WH.run 4 tt_ok rfl rfl rfl rfl trivial ?_
        refine WH.yv rfl (LJ.Y.fieldRel (fo := 2) rfl rfl (by kernel_rfl)) rfl rfl rfl ?_
        refine WH.yv rfl (LJ.Y.loadRel enc_api_Frame x2 (IntKind.i64.wrap ((((([] : List T_api_Frame) ++ a0).map enc_api_Frame).length : Int) - 1)) 2 rfl rfl (fun _ => rfl) rfl (by kernel_rfl) rfl (by first | exact nIn_ok g3 | (have := nIn_ok g3; simpa only [List.length_set, List.length_map] using this))) rfl rfl rfl ?_
        obtain ⟨g7, H⟩ := of_need H
        refine WH.yv rfl (LJ.Y.sliceRsl 16 (IntKind.i64.wrap (((x2.getD (IntKind.i64.wrap ((((([] : List T_api_Frame) ++ a0).map enc_api_Frame).length : Int) - 1)).toNat default).N) - a1)) ((x2.getD (IntKind.i64.wrap ((((([] : List T_api_Frame) ++ a0).map enc_api_Frame).length : Int) - 1)).toNat default).N) (by kernel_rfl) rfl rfl ⟨_, rfl⟩ ⟨_, rfl⟩ (nSl_ok g7)) rfl rfl rfl ?_
        refine WH.eff 136 tt_ok et_ok rfl rfl rfl rfl trivial rfl rfl ?_
        refine WH.row 136 (([] : List Int).map enc_i64) rfl rfl rfl ?_
        obtain ⟨g8, H⟩ := of_need H
        refine WH.appRsl enc_i64 ([] : List Int) enc_api_Frame x2 16 11 (fun x => DV.int .i64 x) ((x2.getD (IntKind.i64.wrap ((((([] : List T_api_Frame) ++ a0).map enc_api_Frame).length : Int) - 1)).toNat default).S) (IntKind.i64.wrap ((((([] : List T_api_Frame) ++ a0).map enc_api_Frame).length : Int) - 1)) (IntKind.i64.wrap (((x2.getD (IntKind.i64.wrap ((((([] : List T_api_Frame) ++ a0).map enc_api_Frame).length : Int) - 1)).toNat default).N) - a1)) ((x2.getD (IntKind.i64.wrap ((((([] : List T_api_Frame) ++ a0).map enc_api_Frame).length : Int) - 1)).toNat default).N) tt_ok et_ok rfl rfl rfl (fun _ => rfl) rfl rfl rfl rfl rfl (fun _ => rfl) rfl rfl rfl (nSl_ok g7) (by first | exact nIn_ok g3 | (have := nIn_ok g3; simpa only [List.length_set, List.length_map] using this)) (nCap_ok g8) rfl rfl rfl rfl rfl rfl rfl ?_
        refine WH.mv rfl rfl rfl rfl rfl rfl rfl rfl rfl ?_
        refine WH.nil rfl ?_
        refine QT.n ?_
        refine WC.seq ?_
        obtain ⟨g5_13_1, H⟩ := of_need H
        refine WC.heldF [(1, .d (.int .i64 a1)), (7, .own 0), (8, .rel 0 ((IntKind.i64.wrap ((((([] : List T_api_Frame) ++ a0).map enc_api_Frame).length : Int) - 1)).toNat * 27)), (9, .own 136)] [(0, .row 45 27 ((x2.set (IntKind.i64.wrap ((((([] : List T_api_Frame) ++ a0).map enc_api_Frame).length : Int) - 1)).toNat (⟨(x2.getD (IntKind.i64.wrap ((((([] : List T_api_Frame) ++ a0).map enc_api_Frame).length : Int) - 1)).toNat default).Fn, (x2.getD (IntKind.i64.wrap ((((([] : List T_api_Frame) ++ a0).map enc_api_Frame).length : Int) - 1)).toNat default).Pc, (x2.getD (IntKind.i64.wrap ((((([] : List T_api_Frame) ++ a0).map enc_api_Frame).length : Int) - 1)).toNat default).N, ((x2.getD (IntKind.i64.wrap ((((([] : List T_api_Frame) ++ a0).map enc_api_Frame).length : Int) - 1)).toNat default).L), (afill 16 ((x2.getD (IntKind.i64.wrap ((((([] : List T_api_Frame) ++ a0).map enc_api_Frame).length : Int) - 1)).toNat default).S) (IntKind.i64.wrap (((x2.getD (IntKind.i64.wrap ((((([] : List T_api_Frame) ++ a0).map enc_api_Frame).length : Int) - 1)).toNat default).N) - a1)) ((x2.getD (IntKind.i64.wrap ((((([] : List T_api_Frame) ++ a0).map enc_api_Frame).length : Int) - 1)).toNat default).N) 0)⟩ : T_api_Frame)).map enc_api_Frame)), (136, .row 3 1 ((([] : List Int) ++ asub ((x2.getD (IntKind.i64.wrap ((((([] : List T_api_Frame) ++ a0).map enc_api_Frame).length : Int) - 1)).toNat default).S) (IntKind.i64.wrap (((x2.getD (IntKind.i64.wrap ((((([] : List T_api_Frame) ++ a0).map enc_api_Frame).length : Int) - 1)).toNat default).N) - a1)) ((x2.getD (IntKind.i64.wrap ((((([] : List T_api_Frame) ++ a0).map enc_api_Frame).length : Int) - 1)).toNat default).N)).map enc_i64))] (.one 0 true (.one 1 true (.one 2 true (.one 3 true (.one 4 true (.one 5 true (.one 7 true (.one 9 true (.one 10 true (.one 11 true (.fork (.one 6 false (.one 8 true (.one 12 false (.one 13 true (.one 14 false .done))))) (.one 12 false (.one 6 false (.one 8 true (.one 13 true (.one 14 false .done)))))))))))))))) [0, 1000000] [] rfl (by kernel_rfl) rfl (by kernel_rfl) rfl rfl (fun _ h => h) rfl rfl rfl (fun FK NK wK K => ?_) ?_
        · refine WH.run 2 tt_ok rfl rfl rfl rfl trivial ?_
          refine WH.yv rfl (LJ.Y.fieldRel (fo := 11) rfl rfl (by kernel_rfl)) rfl rfl rfl ?_
          refine WH.run 2 tt_ok rfl rfl rfl rfl trivial ?_
          refine WH.yv rfl (LJ.Y.fieldRel (fo := 2) rfl rfl (by kernel_rfl)) rfl rfl rfl ?_
          refine WH.run 3 tt_ok rfl rfl rfl rfl trivial ?_
          refine WH.yv rfl (LJ.Y.fieldRel (fo := 2) rfl rfl (by kernel_rfl)) rfl rfl rfl ?_
          refine WH.fork ?_ ?_
          · refine WH.yvs rfl (LJ.Y.loadRel enc_api_Frame x2 (IntKind.i64.wrap ((((([] : List T_api_Frame) ++ a0).map enc_api_Frame).length : Int) - 1)) 2 rfl rfl (fun _ => rfl) rfl (by kernel_rfl) rfl (by first | exact nIn_ok g3 | (have := nIn_ok g3; simpa only [List.length_set, List.length_map] using this))) rfl rfl rfl rfl rfl ?_
            refine WH.run 1 tt_ok rfl rfl rfl rfl trivial ?_
            refine WH.yvs rfl (LJ.Y.loadRel enc_api_Frame x2 (IntKind.i64.wrap ((((([] : List T_api_Frame) ++ a0).map enc_api_Frame).length : Int) - 1)) 2 rfl rfl (fun _ => rfl) rfl (by kernel_rfl) rfl (by first | exact nIn_ok g3 | (have := nIn_ok g3; simpa only [List.length_set, List.length_map] using this))) rfl rfl rfl rfl rfl ?_
            refine WH.yv rfl (LJ.Y.sliceRsl 16 (IntKind.i64.wrap (((x2.getD (IntKind.i64.wrap ((((([] : List T_api_Frame) ++ a0).map enc_api_Frame).length : Int) - 1)).toNat default).N) - a1)) ((x2.getD (IntKind.i64.wrap ((((([] : List T_api_Frame) ++ a0).map enc_api_Frame).length : Int) - 1)).toNat default).N) (by kernel_rfl) rfl rfl ⟨_, rfl⟩ ⟨_, rfl⟩ (nSl_ok g5_13_1)) rfl rfl rfl ?_
            refine WH.step rfl (WO.clrRsl enc_api_Frame x2 16 11 ((x2.getD (IntKind.i64.wrap ((((([] : List T_api_Frame) ++ a0).map enc_api_Frame).length : Int) - 1)).toNat default).S) (⟨(x2.getD (IntKind.i64.wrap ((((([] : List T_api_Frame) ++ a0).map enc_api_Frame).length : Int) - 1)).toNat default).Fn, (x2.getD (IntKind.i64.wrap ((((([] : List T_api_Frame) ++ a0).map enc_api_Frame).length : Int) - 1)).toNat default).Pc, (x2.getD (IntKind.i64.wrap ((((([] : List T_api_Frame) ++ a0).map enc_api_Frame).length : Int) - 1)).toNat default).N, ((x2.getD (IntKind.i64.wrap ((((([] : List T_api_Frame) ++ a0).map enc_api_Frame).length : Int) - 1)).toNat default).L), (afill 16 ((x2.getD (IntKind.i64.wrap ((((([] : List T_api_Frame) ++ a0).map enc_api_Frame).length : Int) - 1)).toNat default).S) (IntKind.i64.wrap (((x2.getD (IntKind.i64.wrap ((((([] : List T_api_Frame) ++ a0).map enc_api_Frame).length : Int) - 1)).toNat default).N) - a1)) ((x2.getD (IntKind.i64.wrap ((((([] : List T_api_Frame) ++ a0).map enc_api_Frame).length : Int) - 1)).toNat default).N) 0)⟩ : T_api_Frame) (IntKind.i64.wrap ((((([] : List T_api_Frame) ++ a0).map enc_api_Frame).length : Int) - 1)) (IntKind.i64.wrap (((x2.getD (IntKind.i64.wrap ((((([] : List T_api_Frame) ++ a0).map enc_api_Frame).length : Int) - 1)).toNat default).N) - a1)) ((x2.getD (IntKind.i64.wrap ((((([] : List T_api_Frame) ++ a0).map enc_api_Frame).length : Int) - 1)).toNat default).N) tt_ok rfl (by kernel_rfl) rfl rfl (fun _ => rfl) rfl rfl rfl rfl (nSl_ok g5_13_1) (by first | exact nIn_ok g3 | (have := nIn_ok g3; simpa only [List.length_set, List.length_map] using this)) rfl rfl rfl) rfl rfl rfl ?_
            exact WH.nilF rfl (LessW.mk' ⟨AVle.of rfl, AVle.of rfl, AVle.of rfl, AVle.of rfl, trivial⟩ ⟨rfl, rfl, trivial⟩)
          · refine WH.yvs rfl (LJ.Y.loadRel enc_api_Frame x2 (IntKind.i64.wrap ((((([] : List T_api_Frame) ++ a0).map enc_api_Frame).length : Int) - 1)) 2 rfl rfl (fun _ => rfl) rfl (by kernel_rfl) rfl (by first | exact nIn_ok g3 | (have := nIn_ok g3; simpa only [List.length_set, List.length_map] using this))) rfl rfl rfl rfl rfl ?_
            refine WH.yvs rfl (LJ.Y.loadRel enc_api_Frame x2 (IntKind.i64.wrap ((((([] : List T_api_Frame) ++ a0).map enc_api_Frame).length : Int) - 1)) 2 rfl rfl (fun _ => rfl) rfl (by kernel_rfl) rfl (by first | exact nIn_ok g3 | (have := nIn_ok g3; simpa only [List.length_set, List.length_map] using this))) rfl rfl rfl rfl rfl ?_
            refine WH.run 1 tt_ok rfl rfl rfl rfl trivial ?_
            refine WH.yv rfl (LJ.Y.sliceRsl 16 (IntKind.i64.wrap (((x2.getD (IntKind.i64.wrap ((((([] : List T_api_Frame) ++ a0).map enc_api_Frame).length : Int) - 1)).toNat default).N) - a1)) ((x2.getD (IntKind.i64.wrap ((((([] : List T_api_Frame) ++ a0).map enc_api_Frame).length : Int) - 1)).toNat default).N) (by kernel_rfl) rfl rfl ⟨_, rfl⟩ ⟨_, rfl⟩ (nSl_ok g5_13_1)) rfl rfl rfl ?_
            refine WH.step rfl (WO.clrRsl enc_api_Frame x2 16 11 ((x2.getD (IntKind.i64.wrap ((((([] : List T_api_Frame) ++ a0).map enc_api_Frame).length : Int) - 1)).toNat default).S) (⟨(x2.getD (IntKind.i64.wrap ((((([] : List T_api_Frame) ++ a0).map enc_api_Frame).length : Int) - 1)).toNat default).Fn, (x2.getD (IntKind.i64.wrap ((((([] : List T_api_Frame) ++ a0).map enc_api_Frame).length : Int) - 1)).toNat default).Pc, (x2.getD (IntKind.i64.wrap ((((([] : List T_api_Frame) ++ a0).map enc_api_Frame).length : Int) - 1)).toNat default).N, ((x2.getD (IntKind.i64.wrap ((((([] : List T_api_Frame) ++ a0).map enc_api_Frame).length : Int) - 1)).toNat default).L), (afill 16 ((x2.getD (IntKind.i64.wrap ((((([] : List T_api_Frame) ++ a0).map enc_api_Frame).length : Int) - 1)).toNat default).S) (IntKind.i64.wrap (((x2.getD (IntKind.i64.wrap ((((([] : List T_api_Frame) ++ a0).map enc_api_Frame).length : Int) - 1)).toNat default).N) - a1)) ((x2.getD (IntKind.i64.wrap ((((([] : List T_api_Frame) ++ a0).map enc_api_Frame).length : Int) - 1)).toNat default).N) 0)⟩ : T_api_Frame) (IntKind.i64.wrap ((((([] : List T_api_Frame) ++ a0).map enc_api_Frame).length : Int) - 1)) (IntKind.i64.wrap (((x2.getD (IntKind.i64.wrap ((((([] : List T_api_Frame) ++ a0).map enc_api_Frame).length : Int) - 1)).toNat default).N) - a1)) ((x2.getD (IntKind.i64.wrap ((((([] : List T_api_Frame) ++ a0).map enc_api_Frame).length : Int) - 1)).toNat default).N) tt_ok rfl (by kernel_rfl) rfl rfl (fun _ => rfl) rfl rfl rfl rfl (nSl_ok g5_13_1) (by first | exact nIn_ok g3 | (have := nIn_ok g3; simpa only [List.length_set, List.length_map] using this)) rfl rfl rfl) rfl rfl rfl ?_
            exact WH.nilF rfl (LessW.mk' ⟨AVle.of rfl, AVle.of rfl, AVle.of rfl, AVle.of rfl, trivial⟩ ⟨rfl, rfl, trivial⟩)
        · refine QT.n ?_
          refine WC.seq ?_
          refine WC.region ?_
          refine WL.run 2 tt_ok sg0 rfl rfl trivial ?_
          refine WL.yv (LJ.Y.fieldRel (fo := 2) rfl rfl (by kernel_rfl)) rfl rfl rfl ?_
          refine WL.yv (LJ.Y.loadRel enc_api_Frame (x2.set (IntKind.i64.wrap ((((([] : List T_api_Frame) ++ a0).map enc_api_Frame).length : Int) - 1)).toNat (⟨(x2.getD (IntKind.i64.wrap ((((([] : List T_api_Frame) ++ a0).map enc_api_Frame).length : Int) - 1)).toNat default).Fn, (x2.getD (IntKind.i64.wrap ((((([] : List T_api_Frame) ++ a0).map enc_api_Frame).length : Int) - 1)).toNat default).Pc, (x2.getD (IntKind.i64.wrap ((((([] : List T_api_Frame) ++ a0).map enc_api_Frame).length : Int) - 1)).toNat default).N, ((x2.getD (IntKind.i64.wrap ((((([] : List T_api_Frame) ++ a0).map enc_api_Frame).length : Int) - 1)).toNat default).L), (afill 16 ((x2.getD (IntKind.i64.wrap ((((([] : List T_api_Frame) ++ a0).map enc_api_Frame).length : Int) - 1)).toNat default).S) (IntKind.i64.wrap (((x2.getD (IntKind.i64.wrap ((((([] : List T_api_Frame) ++ a0).map enc_api_Frame).length : Int) - 1)).toNat default).N) - a1)) ((x2.getD (IntKind.i64.wrap ((((([] : List T_api_Frame) ++ a0).map enc_api_Frame).length : Int) - 1)).toNat default).N) 0)⟩ : T_api_Frame)) (IntKind.i64.wrap ((((([] : List T_api_Frame) ++ a0).map enc_api_Frame).length : Int) - 1)) 2 rfl rfl (fun _ => rfl) rfl (by kernel_rfl) rfl (by first | exact nIn_ok g3 | (have := nIn_ok g3; simpa only [List.length_set, List.length_map] using this))) rfl rfl rfl ?_
          refine WL.run 3 tt_ok sg0 rfl rfl trivial ?_
          refine WL.yv (LJ.Y.fieldRel (fo := 2) rfl rfl (by kernel_rfl)) rfl rfl rfl ?_
          refine WL.storeRel enc_api_Frame (x2.set (IntKind.i64.wrap ((((([] : List T_api_Frame) ++ a0).map enc_api_Frame).length : Int) - 1)).toNat (⟨(x2.getD (IntKind.i64.wrap ((((([] : List T_api_Frame) ++ a0).map enc_api_Frame).length : Int) - 1)).toNat default).Fn, (x2.getD (IntKind.i64.wrap ((((([] : List T_api_Frame) ++ a0).map enc_api_Frame).length : Int) - 1)).toNat default).Pc, (x2.getD (IntKind.i64.wrap ((((([] : List T_api_Frame) ++ a0).map enc_api_Frame).length : Int) - 1)).toNat default).N, ((x2.getD (IntKind.i64.wrap ((((([] : List T_api_Frame) ++ a0).map enc_api_Frame).length : Int) - 1)).toNat default).L), (afill 16 ((x2.getD (IntKind.i64.wrap ((((([] : List T_api_Frame) ++ a0).map enc_api_Frame).length : Int) - 1)).toNat default).S) (IntKind.i64.wrap (((x2.getD (IntKind.i64.wrap ((((([] : List T_api_Frame) ++ a0).map enc_api_Frame).length : Int) - 1)).toNat default).N) - a1)) ((x2.getD (IntKind.i64.wrap ((((([] : List T_api_Frame) ++ a0).map enc_api_Frame).length : Int) - 1)).toNat default).N) 0)⟩ : T_api_Frame)) (IntKind.i64.wrap ((((([] : List T_api_Frame) ++ a0).map enc_api_Frame).length : Int) - 1)) 2 (⟨((x2.set (IntKind.i64.wrap ((((([] : List T_api_Frame) ++ a0).map enc_api_Frame).length : Int) - 1)).toNat (⟨(x2.getD (IntKind.i64.wrap ((((([] : List T_api_Frame) ++ a0).map enc_api_Frame).length : Int) - 1)).toNat default).Fn, (x2.getD (IntKind.i64.wrap ((((([] : List T_api_Frame) ++ a0).map enc_api_Frame).length : Int) - 1)).toNat default).Pc, (x2.getD (IntKind.i64.wrap ((((([] : List T_api_Frame) ++ a0).map enc_api_Frame).length : Int) - 1)).toNat default).N, ((x2.getD (IntKind.i64.wrap ((((([] : List T_api_Frame) ++ a0).map enc_api_Frame).length : Int) - 1)).toNat default).L), (afill 16 ((x2.getD (IntKind.i64.wrap ((((([] : List T_api_Frame) ++ a0).map enc_api_Frame).length : Int) - 1)).toNat default).S) (IntKind.i64.wrap (((x2.getD (IntKind.i64.wrap ((((([] : List T_api_Frame) ++ a0).map enc_api_Frame).length : Int) - 1)).toNat default).N) - a1)) ((x2.getD (IntKind.i64.wrap ((((([] : List T_api_Frame) ++ a0).map enc_api_Frame).length : Int) - 1)).toNat default).N) 0)⟩ : T_api_Frame)).getD (IntKind.i64.wrap ((((([] : List T_api_Frame) ++ a0).map enc_api_Frame).length : Int) - 1)).toNat default).Fn, ((x2.set (IntKind.i64.wrap ((((([] : List T_api_Frame) ++ a0).map enc_api_Frame).length : Int) - 1)).toNat (⟨(x2.getD (IntKind.i64.wrap ((((([] : List T_api_Frame) ++ a0).map enc_api_Frame).length : Int) - 1)).toNat default).Fn, (x2.getD (IntKind.i64.wrap ((((([] : List T_api_Frame) ++ a0).map enc_api_Frame).length : Int) - 1)).toNat default).Pc, (x2.getD (IntKind.i64.wrap ((((([] : List T_api_Frame) ++ a0).map enc_api_Frame).length : Int) - 1)).toNat default).N, ((x2.getD (IntKind.i64.wrap ((((([] : List T_api_Frame) ++ a0).map enc_api_Frame).length : Int) - 1)).toNat default).L), (afill 16 ((x2.getD (IntKind.i64.wrap ((((([] : List T_api_Frame) ++ a0).map enc_api_Frame).length : Int) - 1)).toNat default).S) (IntKind.i64.wrap (((x2.getD (IntKind.i64.wrap ((((([] : List T_api_Frame) ++ a0).map enc_api_Frame).length : Int) - 1)).toNat default).N) - a1)) ((x2.getD (IntKind.i64.wrap ((((([] : List T_api_Frame) ++ a0).map enc_api_Frame).length : Int) - 1)).toNat default).N) 0)⟩ : T_api_Frame)).getD (IntKind.i64.wrap ((((([] : List T_api_Frame) ++ a0).map enc_api_Frame).length : Int) - 1)).toNat default).Pc, IntKind.i64.wrap ((((x2.set (IntKind.i64.wrap ((((([] : List T_api_Frame) ++ a0).map enc_api_Frame).length : Int) - 1)).toNat (⟨(x2.getD (IntKind.i64.wrap ((((([] : List T_api_Frame) ++ a0).map enc_api_Frame).length : Int) - 1)).toNat default).Fn, (x2.getD (IntKind.i64.wrap ((((([] : List T_api_Frame) ++ a0).map enc_api_Frame).length : Int) - 1)).toNat default).Pc, (x2.getD (IntKind.i64.wrap ((((([] : List T_api_Frame) ++ a0).map enc_api_Frame).length : Int) - 1)).toNat default).N, ((x2.getD (IntKind.i64.wrap ((((([] : List T_api_Frame) ++ a0).map enc_api_Frame).length : Int) - 1)).toNat default).L), (afill 16 ((x2.getD (IntKind.i64.wrap ((((([] : List T_api_Frame) ++ a0).map enc_api_Frame).length : Int) - 1)).toNat default).S) (IntKind.i64.wrap (((x2.getD (IntKind.i64.wrap ((((([] : List T_api_Frame) ++ a0).map enc_api_Frame).length : Int) - 1)).toNat default).N) - a1)) ((x2.getD (IntKind.i64.wrap ((((([] : List T_api_Frame) ++ a0).map enc_api_Frame).length : Int) - 1)).toNat default).N) 0)⟩ : T_api_Frame)).getD (IntKind.i64.wrap ((((([] : List T_api_Frame) ++ a0).map enc_api_Frame).length : Int) - 1)).toNat default).N) - a1), (((x2.set (IntKind.i64.wrap ((((([] : List T_api_Frame) ++ a0).map enc_api_Frame).length : Int) - 1)).toNat (⟨(x2.getD (IntKind.i64.wrap ((((([] : List T_api_Frame) ++ a0).map enc_api_Frame).length : Int) - 1)).toNat default).Fn, (x2.getD (IntKind.i64.wrap ((((([] : List T_api_Frame) ++ a0).map enc_api_Frame).length : Int) - 1)).toNat default).Pc, (x2.getD (IntKind.i64.wrap ((((([] : List T_api_Frame) ++ a0).map enc_api_Frame).length : Int) - 1)).toNat default).N, ((x2.getD (IntKind.i64.wrap ((((([] : List T_api_Frame) ++ a0).map enc_api_Frame).length : Int) - 1)).toNat default).L), (afill 16 ((x2.getD (IntKind.i64.wrap ((((([] : List T_api_Frame) ++ a0).map enc_api_Frame).length : Int) - 1)).toNat default).S) (IntKind.i64.wrap (((x2.getD (IntKind.i64.wrap ((((([] : List T_api_Frame) ++ a0).map enc_api_Frame).length : Int) - 1)).toNat default).N) - a1)) ((x2.getD (IntKind.i64.wrap ((((([] : List T_api_Frame) ++ a0).map enc_api_Frame).length : Int) - 1)).toNat default).N) 0)⟩ : T_api_Frame)).getD (IntKind.i64.wrap ((((([] : List T_api_Frame) ++ a0).map enc_api_Frame).length : Int) - 1)).toNat default).L), (((x2.set (IntKind.i64.wrap ((((([] : List T_api_Frame) ++ a0).map enc_api_Frame).length : Int) - 1)).toNat (⟨(x2.getD (IntKind.i64.wrap ((((([] : List T_api_Frame) ++ a0).map enc_api_Frame).length : Int) - 1)).toNat default).Fn, (x2.getD (IntKind.i64.wrap ((((([] : List T_api_Frame) ++ a0).map enc_api_Frame).length : Int) - 1)).toNat default).Pc, (x2.getD (IntKind.i64.wrap ((((([] : List T_api_Frame) ++ a0).map enc_api_Frame).length : Int) - 1)).toNat default).N, ((x2.getD (IntKind.i64.wrap ((((([] : List T_api_Frame) ++ a0).map enc_api_Frame).length : Int) - 1)).toNat default).L), (afill 16 ((x2.getD (IntKind.i64.wrap ((((([] : List T_api_Frame) ++ a0).map enc_api_Frame).length : Int) - 1)).toNat default).S) (IntKind.i64.wrap (((x2.getD (IntKind.i64.wrap ((((([] : List T_api_Frame) ++ a0).map enc_api_Frame).length : Int) - 1)).toNat default).N) - a1)) ((x2.getD (IntKind.i64.wrap ((((([] : List T_api_Frame) ++ a0).map enc_api_Frame).length : Int) - 1)).toNat default).N) 0)⟩ : T_api_Frame)).getD (IntKind.i64.wrap ((((([] : List T_api_Frame) ++ a0).map enc_api_Frame).length : Int) - 1)).toNat default).S)⟩ : T_api_Frame) (.int .i64 (IntKind.i64.wrap ((((x2.set (IntKind.i64.wrap ((((([] : List T_api_Frame) ++ a0).map enc_api_Frame).length : Int) - 1)).toNat (⟨(x2.getD (IntKind.i64.wrap ((((([] : List T_api_Frame) ++ a0).map enc_api_Frame).length : Int) - 1)).toNat default).Fn, (x2.getD (IntKind.i64.wrap ((((([] : List T_api_Frame) ++ a0).map enc_api_Frame).length : Int) - 1)).toNat default).Pc, (x2.getD (IntKind.i64.wrap ((((([] : List T_api_Frame) ++ a0).map enc_api_Frame).length : Int) - 1)).toNat default).N, ((x2.getD (IntKind.i64.wrap ((((([] : List T_api_Frame) ++ a0).map enc_api_Frame).length : Int) - 1)).toNat default).L), (afill 16 ((x2.getD (IntKind.i64.wrap ((((([] : List T_api_Frame) ++ a0).map enc_api_Frame).length : Int) - 1)).toNat default).S) (IntKind.i64.wrap (((x2.getD (IntKind.i64.wrap ((((([] : List T_api_Frame) ++ a0).map enc_api_Frame).length : Int) - 1)).toNat default).N) - a1)) ((x2.getD (IntKind.i64.wrap ((((([] : List T_api_Frame) ++ a0).map enc_api_Frame).length : Int) - 1)).toNat default).N) 0)⟩ : T_api_Frame)).getD (IntKind.i64.wrap ((((([] : List T_api_Frame) ++ a0).map enc_api_Frame).length : Int) - 1)).toNat default).N) - a1))) rfl rfl rfl rfl (fun _ => rfl) rfl (by kernel_rfl) rfl rfl (by first | exact nIn_ok g3 | (have := nIn_ok g3; simpa only [List.length_set, List.length_map] using this)) rfl rfl rfl rfl ?_
          refine WL.nil ?_
          refine QT.n ?_
          refine WC.seq ?_
          refine WC.region ?_
          refine WL.run 5 tt_ok sg0 rfl rfl trivial ?_
          refine WL.nil ?_
          refine QT.n ?_
          refine WC.freezeT 136 enc_i64 (([] : List Int) ++ asub ((x2.getD (IntKind.i64.wrap ((((([] : List T_api_Frame) ++ a0).map enc_api_Frame).length : Int) - 1)).toNat default).S) (IntKind.i64.wrap (((x2.getD (IntKind.i64.wrap ((((([] : List T_api_Frame) ++ a0).map enc_api_Frame).length : Int) - 1)).toNat default).N) - a1)) ((x2.getD (IntKind.i64.wrap ((((([] : List T_api_Frame) ++ a0).map enc_api_Frame).length : Int) - 1)).toNat default).N)) rfl rfl rfl rfl ?_
          refine WC.ret ?_
          cases H
          exact Ends.auto rfl rfl rfl ⟨rfl, trivial⟩
  · replace H := of_t H h1
    obtain ⟨x9, hx9, H⟩ := of_bind H
    refine WL.call [] (frame_last_n_0 _ h1 hx9) frame_last_n_f rfl rfl trivial rfl rfl rfl ?_
    refine WL.run 5 tt_ok sg0 rfl rfl trivial ?_
    refine WL.nil ?_
    refine QT.n ?_
    refine WC.seq ?_
    refine WC.seq ?_
    refine WC.region ?_
    refine WL.run 3 tt_ok sg0 rfl rfl trivial ?_
    refine WL.gskips 2 2 false 17 rfl rfl rfl rfl ?_
    refine WL.pickT rfl rfl rfl rfl rfl rfl ?_
    refine WL.run 1 tt_ok sg0 rfl rfl trivial ?_
    refine WL.gskips 6 6 false 21 rfl rfl rfl rfl ?_
    refine WL.pickT rfl rfl rfl rfl rfl rfl ?_
    refine WL.run 1 tt_ok sg0 rfl rfl trivial ?_
    refine WL.gskips 5 14 false 29 rfl rfl rfl rfl ?_
    refine WL.pickT rfl rfl rfl rfl rfl rfl ?_
    refine WL.nil ?_
    refine QT.n ?_
    refine WC.cond rfl (fun h => ?_) (fun h => absurd h (by decide))
    refine WC.seq ?_
    refine WC.region ?_
    refine WL.run 3 tt_ok sg0 rfl rfl trivial ?_
    refine WL.nil ?_
    refine QT.n ?_
    refine WC.nilrow (t := 4) 0 45 27 rfl rfl rfl ?_
    refine WC.row 0 (([] : List T_api_Frame).map enc_api_Frame) rfl rfl rfl ?_
    refine WC.nilT 5 enc_i64 rfl ?_
    refine WC.ret ?_
    refine QT.r ?_
    cases H
    exact Ends.auto rfl rfl rfl ⟨rfl, trivial⟩
theorem frame_Pop_s (n0 : Nat) (hn : nodupB [n0] = true) (a0 : List T_api_Frame) (a1 : Int) {r : (List T_api_Frame) × (List Int) × Bool} (H : frame_Pop a0 a1 = some r) : LJ.Spec Try.prog 22 [.d (slT enc_api_Frame a0), .d (.int .i64 a1)] [] (.tup [.own n0, .d (slT enc_i64 r.2.1), .d (.bool r.2.2)]) [(n0, .row 45 27 (r.1.map enc_api_Frame))] :=
  Spec.names [n0] hn rfl rfl (frame_Pop_0 a0 a1 H)
theorem frame_Pop_f : hasFunc Try.prog 22 Try.f22 := ⟨Try.func22, rfl, by kernel_rfl⟩

/-! ### logjam/word.Low -/
theorem word_Low_0 (a0 : Int) {r : Int} (H : word_Low a0 = some r) : LJ.Spec Try.prog 61 [.d (.int .i64 a0)] [] (.d (.int .i64 r)) [] := by
  refine LJ.Spec.code Try.func61 rfl 7 rfl rfl [] rfl fun w0 F0 S0 B0 => ?_
  unfold word_Low at H
  refine WC.seq ?_
  refine WC.region ?_
  refine WL.run 1 tt_ok sg0 rfl rfl trivial ?_
  refine WL.nil ?_
  refine QT.n ?_
  refine WC.seq ?_
  refine WC.region ?_
  refine WL.run 5 tt_ok sg0 rfl rfl trivial ?_
  refine WL.nil ?_
  refine QT.n ?_
  refine WC.ret ?_
  cases H
  exact Ends.auto rfl rfl rfl trivial
theorem word_Low_f : hasFunc Try.prog 61 Try.f61 := ⟨Try.func61, rfl, by kernel_rfl⟩

/-! ### logjam/frame.New -/
theorem frame_New_0 (a0 : Int) (a1 : List Int) {r : List T_api_Frame} (H : frame_New a0 a1 = some r) : LJ.Spec Try.prog 60 [.d (.int .i64 a0), .d (slT enc_i64 a1)] [] (.d (slT enc_api_Frame r)) [] := by
  refine LJ.Spec.code Try.func60 rfl 29 rfl rfl [] rfl fun w0 F0 S0 B0 => ?_
  unfold frame_New at H
  refine WC.seq ?_
  refine WC.region ?_
  refine WL.run 1 tt_ok sg0 rfl rfl trivial ?_
  refine WL.nil ?_
  refine QT.n ?_
  refine WC.seq ?_
  refine WC.region ?_
  refine WL.run 2 tt_ok sg0 rfl rfl trivial ?_
  refine WL.alloc 105 tt_ok rfl rfl rfl ?_
  refine WL.eff 0 tt_ok et_ok eg0 rfl rfl rfl trivial ?_
  refine WL.nil ?_
  refine QT.n ?_
  refine WC.seq ?_
  refine WC.seq ?_
  refine WC.region ?_
  refine WL.run 3 tt_ok sg0 rfl rfl trivial ?_
  refine WL.yv (LJ.Y.min rfl rfl rfl) rfl rfl rfl ?_
  obtain ⟨g1, H⟩ := of_need H
  refine WL.yv (LJ.Y.sliceT enc_i64 a1 tt_ok rfl (fun _ => rfl) none (some (.tmp 13)) (0 : Int) (iMin (a1.length : Int) (8 : Int)) rfl rfl ⟨_, rfl⟩ rfl rfl (nSl_ok g1)) rfl rfl rfl ?_
  refine WL.run 2 tt_ok sg0 rfl rfl trivial ?_
  refine WL.nil ?_
  refine QT.n ?_
  refine WC.block ?_
  refine WC.loop (ι := {x : Nat × (Int × (List Int)) // frame_New_l3 a0 a1 x.1 x.2 = some r}) (fun x => [(5, .ptr 105 0), (14, .d (slT enc_i64 ((a1.take (iMin (a1.length : Int) (8 : Int)).toNat).drop (0 : Int).toNat))), (15, .d (.int .i64 (((a1.take (iMin (a1.length : Int) (8 : Int)).toNat).drop (0 : Int).toNat).length : Int))), (16, .d (.int .i64 x.1.2.1))]) (fun x => [(105, .box 45 [.d (.int .i64 a0), .d (.int .i64 0), .d (.int .i64 0), .d (.int .i64 (x.1.2.2.getD 0 default)), .d (.int .i64 (x.1.2.2.getD 1 default)), .d (.int .i64 (x.1.2.2.getD 2 default)), .d (.int .i64 (x.1.2.2.getD 3 default)), .d (.int .i64 (x.1.2.2.getD 4 default)), .d (.int .i64 (x.1.2.2.getD 5 default)), .d (.int .i64 (x.1.2.2.getD 6 default)), .d (.int .i64 (x.1.2.2.getD 7 default)), .d (.int .i64 0), .d (.int .i64 0), .d (.int .i64 0), .d (.int .i64 0), .d (.int .i64 0), .d (.int .i64 0), .d (.int .i64 0), .d (.int .i64 0), .d (.int .i64 0), .d (.int .i64 0), .d (.int .i64 0), .d (.int .i64 0), .d (.int .i64 0), .d (.int .i64 0), .d (.int .i64 0), .d (.int .i64 0)])]) (fun x => x.1.1) ⟨(fuel, (0, ([0, 0, 0, 0, 0, 0, 0, 0] : List Int))), H⟩ (Less.mk' ⟨rfl, rfl, rfl, rfl, trivial⟩ ⟨rfl, trivial⟩) fun x => ?_
  obtain ⟨⟨k3, s2⟩, H⟩ := x
  rcases k3 with _ | k3
  · exact of_none H
  rw [frame_New_l3] at H
  refine WC.seq ?_
  refine WC.region ?_
  refine WL.run 1 tt_ok sg0 rfl rfl trivial ?_
  refine WL.nil ?_
  refine QT.n ?_
  refine WC.seq ?_
  refine WC.cond rfl (fun h4 => ?_) (fun h4 => ?_)
  · replace H := of_t H h4
    refine WC.skip ?_
    refine QT.n ?_
    refine WC.seq ?_
    refine WC.block ?_
    refine WC.seq ?_
    refine WC.region ?_
    obtain ⟨g5, H⟩ := of_need H
    refine WL.run 5 tt_ok sg0 rfl rfl ⟨⟨(nIn_ok g5).1, (nIn_ok g5).2, rfl⟩, trivial⟩ ?_
    refine WL.nil ?_
    refine QT.n ?_
    refine WC.region ?_
    refine WL.run 2 tt_ok sg0 rfl rfl trivial ?_
    obtain ⟨x6, hx6, H⟩ := of_bind H
    refine WL.call [] (word_Low_0 _ hx6) word_Low_f rfl rfl trivial rfl rfl rfl ?_
    refine WL.run 1 tt_ok sg0 rfl rfl trivial ?_
    obtain ⟨g7, H⟩ := of_need H
    refine WL.yv (LJ.Y.idxPtrA 8 s2.1 (by kernel_rfl) rfl rfl rfl (nIn_ok g7)) rfl rfl rfl ?_
    refine WL.wo (WO.storePtrA 8 3 (fun x : Int => DV.int .i64 x) s2.2 x6 s2.1 (cs' := [.d (.int .i64 a0), .d (.int .i64 0), .d (.int .i64 0), .d (.int .i64 ((aset 8 s2.2 s2.1.toNat x6).getD 0 default)), .d (.int .i64 ((aset 8 s2.2 s2.1.toNat x6).getD 1 default)), .d (.int .i64 ((aset 8 s2.2 s2.1.toNat x6).getD 2 default)), .d (.int .i64 ((aset 8 s2.2 s2.1.toNat x6).getD 3 default)), .d (.int .i64 ((aset 8 s2.2 s2.1.toNat x6).getD 4 default)), .d (.int .i64 ((aset 8 s2.2 s2.1.toNat x6).getD 5 default)), .d (.int .i64 ((aset 8 s2.2 s2.1.toNat x6).getD 6 default)), .d (.int .i64 ((aset 8 s2.2 s2.1.toNat x6).getD 7 default)), .d (.int .i64 0), .d (.int .i64 0), .d (.int .i64 0), .d (.int .i64 0), .d (.int .i64 0), .d (.int .i64 0), .d (.int .i64 0), .d (.int .i64 0), .d (.int .i64 0), .d (.int .i64 0), .d (.int .i64 0), .d (.int .i64 0), .d (.int .i64 0), .d (.int .i64 0), .d (.int .i64 0), .d (.int .i64 0)]) rfl rfl rfl rfl rfl (by kernel_rfl) rfl rfl (nIn_ok g7) rfl rfl rfl) rfl ?_
    refine WL.nil ?_
    refine QB.n (QT.n ?_)
    refine WC.region ?_
    refine WL.run 2 tt_ok sg0 rfl rfl trivial ?_
    refine WL.nil ?_
    refine QT.n ?_
    exact ⟨⟨(k3, (IntKind.i64.wrap (s2.1 + 1), (aset 8 s2.2 s2.1.toNat x6))), H⟩, Nat.lt_succ_self _, Less.mk' ⟨rfl, rfl, rfl, rfl, trivial⟩ ⟨rfl, trivial⟩⟩
  replace H := of_f H h4
  refine WC.exit ?_
  refine QT.x (QT.x (QB.hit (QT.n ?_)))
  refine WC.seq ?_
  refine WC.region ?_
  refine WL.run 1 tt_ok sg0 rfl rfl trivial ?_
  refine WL.eff 128 tt_ok et_ok eg0 rfl rfl rfl trivial ?_
  refine WL.freezeT 128 enc_api_Frame ([(⟨a0, 0, 0, s2.2, ([0, 0, 0, 0, 0, 0, 0, 0, 0, 0, 0, 0, 0, 0, 0, 0] : List Int)⟩ : T_api_Frame)] : List T_api_Frame) rfl rfl rfl rfl ?_
  refine WL.run 1 tt_ok sg0 rfl rfl trivial ?_
  refine WL.nil ?_
  refine QT.n ?_
  refine WC.ret ?_
  cases H
  exact Ends.auto rfl rfl rfl trivial
theorem frame_New_f : hasFunc Try.prog 60 Try.f60 := ⟨Try.func60, rfl, by kernel_rfl⟩

/-! ### logjam/frame.Call -/
theorem frame_Call_0 (a0 : List T_api_Frame) (a1 : Int) (a2 : Int) {r : (List T_api_Frame) × Bool} (H : frame_Call a0 a1 a2 = some r) : LJ.Spec Try.prog 41 [.d (slT enc_api_Frame a0), .d (.int .i64 a1), .d (.int .i64 a2)] [] (.tup [.d (slT enc_api_Frame r.1), .d (.bool r.2)]) [] := by
  refine LJ.Spec.code Try.func41 rfl 34 rfl rfl [] rfl fun w0 F0 S0 B0 => ?_
  unfold frame_Call at H
  refine WC.seq ?_
  refine WC.region ?_
  refine WL.run 2 tt_ok sg0 rfl rfl trivial ?_
  refine WL.nil ?_
  refine QT.n ?_
  refine WC.seq ?_
  refine WC.region ?_
  refine WL.run 2 tt_ok sg0 rfl rfl trivial ?_
  obtain ⟨x1, hx1, H⟩ := of_bind H
  refine WL.call [2140] (frame_Pop_s 2140 rfl _ _ hx1) frame_Pop_f rfl rfl trivial rfl rfl rfl ?_
  refine WL.run 7 tt_ok sg0 rfl rfl trivial ?_
  refine WL.nil ?_
  refine QT.n ?_
  refine WC.seq ?_
  refine WC.seq ?_
  refine WC.region ?_
  refine WL.run 3 tt_ok sg0 rfl rfl trivial ?_
  refine WL.sect 2 2 false tt_ok sg0 rfl rfl (fun _ => trivial) ?_
  refine WL.run 2 tt_ok sg0 rfl rfl ⟨by first | exact id | exact fun h => by rw [h]; rfl | simp_all, trivial⟩ ?_
  refine WL.sect 3 6 false tt_ok sg0 rfl rfl (fun _ => trivial) ?_
  refine WL.run 1 tt_ok sg0 rfl rfl ⟨by first | exact id | exact fun h => by rw [h]; rfl | simp_all, trivial⟩ ?_
  refine WL.nil ?_
  refine QT.n ?_
  refine WC.cond rfl (fun h2 => ?_) (fun h2 => ?_)
  · replace H := of_t H h2
    refine WC.seq ?_
    refine WC.region ?_
    refine WL.run 2 tt_ok sg0 rfl rfl trivial ?_
    refine WL.nil ?_
    refine QT.n ?_
    refine WC.nilT 6 enc_api_Frame rfl ?_
    refine WC.ret ?_
    refine QT.r ?_
    cases H
    exact Ends.auto rfl rfl rfl trivial
  replace H := of_f H h2
  refine WC.skip ?_
  refine QT.n ?_
  refine WC.seq ?_
  refine WC.region ?_
  refine WL.run 3 tt_ok sg0 rfl rfl trivial ?_
  obtain ⟨x3, hx3, H⟩ := of_bind H
  refine WL.call [] (frame_New_0 _ _ hx3) frame_New_f rfl rfl trivial rfl rfl rfl ?_
  obtain ⟨g4, H⟩ := of_need H
  refine WL.appT enc_api_Frame x1.1 x3 tt_ok et_ok rfl rfl (fun _ => rfl) (fun _ => rfl) rfl rfl rfl rfl (nCap_ok g4) rfl rfl rfl rfl rfl ?_
  refine WL.run 2 tt_ok sg0 rfl rfl trivial ?_
  refine WL.nil ?_
  refine QT.n ?_
  refine WC.freezeT 2140 enc_api_Frame (x1.1 ++ x3) rfl rfl rfl rfl ?_
  refine WC.ret ?_
  cases H
  exact Ends.auto rfl rfl rfl trivial
theorem frame_Call_f : hasFunc Try.prog 41 Try.f41 := ⟨Try.func41, rfl, by kernel_rfl⟩

/-! ### logjam/exec.call -/
theorem exec_call_0 (a0 : T_api_Program) (a1 : List T_api_Frame) (a2 : List T_api_Frame) (a3 : Int) {r : (List T_api_Frame) × T_api_Effect × Int} (H : exec_call a0 a1 a2 a3 = some r) : LJ.Spec Try.prog 19 [.d (.agg [slT enc_api_Decl a0.Decls, slT enc_sl_sl_api_Need a0.Waits, slT enc_api_Func a0.Funcs]), .d (slT enc_api_Frame a1), .d (slT enc_api_Frame a2), .d (.int .i64 a3)] [] (.tup [.d (slT enc_api_Frame r.1), .d (.agg [.int .i64 r.2.1.Op, .int .i64 r.2.1.A, .int .i64 r.2.1.B, .int .i64 (r.2.1.X.getD 0 default), .int .i64 (r.2.1.X.getD 1 default), .int .i64 (r.2.1.X.getD 2 default), .int .i64 (r.2.1.X.getD 3 default), .int .i64 (r.2.1.X.getD 4 default)]), .d (.int .i64 r.2.2)]) [] := by
  refine LJ.Spec.code Try.func19 rfl 49 rfl rfl [] rfl fun w0 F0 S0 B0 => ?_
  unfold exec_call at H
  refine WC.seq ?_
  refine WC.region ?_
  refine WL.eff 104 tt_ok et_ok eg0 rfl rfl rfl trivial ?_
  refine WL.run 1 tt_ok sg0 rfl rfl trivial ?_
  refine WL.alloc 109 tt_ok rfl rfl rfl ?_
  refine WL.run 1 tt_ok sg0 rfl rfl trivial ?_
  refine WL.nil ?_
  refine QT.n ?_
  refine WC.seq ?_
  refine WC.region ?_
  refine WL.run 1 tt_ok sg0 rfl rfl trivial ?_
  refine WL.alloc 111 tt_ok rfl rfl rfl ?_
  refine WL.eff 0 tt_ok et_ok eg0 rfl rfl rfl trivial ?_
  refine WL.nil ?_
  refine QT.n ?_
  refine WC.seq ?_
  refine WC.seq ?_
  refine WC.region ?_
  refine WL.run 3 tt_ok sg0 rfl rfl trivial ?_
  refine WL.nil ?_
  refine QT.n ?_
  refine WC.cond rfl (fun h1 => ?_) (fun h1 => ?_)
  · replace H := of_t H h1
    refine WC.seq ?_
    refine WC.heldP (.one 0 true (.one 1 true (.one 2 true (.one 3 false (.one 4 true .done))))) [104, 109, 111] [104, 111] rfl (by kernel_rfl) rfl (by kernel_rfl) rfl rfl (fun _ h => h) rfl rfl rfl (fun _ _ _ h => h) fun FK NK wK K => ?_
    refine WH.run 3 tt_ok rfl rfl rfl rfl trivial ?_
    refine WH.eff 0 tt_ok et_ok rfl rfl rfl rfl trivial rfl rfl ?_
    refine WH.run 1 tt_ok rfl rfl rfl rfl trivial ?_
    refine WH.nil rfl ?_
    refine QT.n ?_
    refine WC.ret ?_
    refine QT.r ?_
    cases H
    exact Ends.autoC tt_ok rfl rfl rfl trivial
  replace H := of_f H h1
  refine WC.skip ?_
  refine QT.n ?_
  refine WC.seq ?_
  refine WC.seq ?_
  refine WC.region ?_
  refine WL.run 3 tt_ok sg0 rfl rfl trivial ?_
  refine WL.sect 5 2 false tt_ok sg0 rfl rfl (fun _ => trivial) ?_
  refine WL.run 1 tt_ok sg0 rfl rfl ⟨by first | exact id | exact fun h => by rw [h]; rfl | simp_all, trivial⟩ ?_
  refine WL.nil ?_
  refine QT.n ?_
  refine WC.cond rfl (fun h2 => ?_) (fun h2 => ?_)
  · replace H := of_t H h2
    refine WC.seq ?_
    refine WC.heldP (.one 0 true (.one 1 true (.one 2 true (.one 3 false (.one 4 true .done))))) [104, 109, 111] [104, 111] rfl (by kernel_rfl) rfl (by kernel_rfl) rfl rfl (fun _ h => h) rfl rfl rfl (fun _ _ _ h => h) fun FK NK wK K => ?_
    refine WH.run 3 tt_ok rfl rfl rfl rfl trivial ?_
    refine WH.eff 0 tt_ok et_ok rfl rfl rfl rfl trivial rfl rfl ?_
    refine WH.run 1 tt_ok rfl rfl rfl rfl trivial ?_
    refine WH.nil rfl ?_
    refine QT.n ?_
    refine WC.ret ?_
    refine QT.r ?_
    cases H
    exact Ends.autoC tt_ok rfl rfl rfl trivial
  replace H := of_f H h2
  refine WC.skip ?_
  refine QT.n ?_
  refine WC.seq ?_
  refine WC.region ?_
  obtain ⟨g3, H⟩ := of_need H
  refine WL.run 8 tt_ok sg0 rfl rfl ⟨⟨(nIn_ok g3).1, (nIn_ok g3).2, rfl⟩, trivial⟩ ?_
  obtain ⟨x4, hx4, H⟩ := of_bind H
  refine WL.call [] (frame_Call_0 _ _ _ hx4) frame_Call_f rfl rfl trivial rfl rfl rfl ?_
  refine WL.run 5 tt_ok sg0 rfl rfl trivial ?_
  refine WL.nil ?_
  refine QT.n ?_
  refine WC.seq ?_
  refine WC.seq ?_
  refine WC.region ?_
  refine WL.run 2 tt_ok sg0 rfl rfl trivial ?_
  refine WL.nil ?_
  refine QT.n ?_
  refine WC.cond rfl (fun h5 => ?_) (fun h5 => ?_)
  · replace H := of_t H h5
    refine WC.seq ?_
    refine WC.heldP (.one 0 true (.one 1 true (.one 2 true (.one 3 false (.one 4 true .done))))) [104, 109, 111] [104, 111] rfl (by kernel_rfl) rfl (by kernel_rfl) rfl rfl (fun _ h => h) rfl rfl rfl (fun _ _ _ h => h) fun FK NK wK K => ?_
    refine WH.run 3 tt_ok rfl rfl rfl rfl trivial ?_
    refine WH.eff 0 tt_ok et_ok rfl rfl rfl rfl trivial rfl rfl ?_
    refine WH.run 1 tt_ok rfl rfl rfl rfl trivial ?_
    refine WH.nil rfl ?_
    refine QT.n ?_
    refine WC.ret ?_
    refine QT.r ?_
    cases H
    exact Ends.autoC tt_ok rfl rfl rfl trivial
  replace H := of_f H h5
  refine WC.skip ?_
  refine QT.n ?_
  refine WC.seq ?_
  refine WC.heldP (.one 0 true (.one 1 true (.one 2 true (.one 3 false (.one 4 true .done))))) [104, 109, 111] [104, 111] rfl (by kernel_rfl) rfl (by kernel_rfl) rfl rfl (fun _ h => h) rfl rfl rfl (fun _ _ _ h => h) fun FK NK wK K => ?_
  refine WH.run 3 tt_ok rfl rfl rfl rfl trivial ?_
  refine WH.eff 0 tt_ok et_ok rfl rfl rfl rfl trivial rfl rfl ?_
  refine WH.run 1 tt_ok rfl rfl rfl rfl trivial ?_
  refine WH.nil rfl ?_
  refine QT.n ?_
  refine WC.ret ?_
  cases H
  exact Ends.autoC tt_ok rfl rfl rfl trivial
theorem exec_call_f : hasFunc Try.prog 19 Try.f19 := ⟨Try.func19, rfl, by kernel_rfl⟩

/-! ### logjam/frame.Top -/
theorem frame_Top_0 (a0 : List T_api_Frame) {r : Int × Bool} (H : frame_Top a0 = some r) : LJ.Spec Try.prog 43 [.d (slT enc_api_Frame a0)] [] (.tup [.d (.int .i64 r.1), .d (.bool r.2)]) [] := by
  refine LJ.Spec.code Try.func43 rfl 18 rfl rfl [] rfl fun w0 F0 S0 B0 => ?_
  unfold frame_Top at H
  refine WC.seq ?_
  refine WC.region ?_
  refine WL.run 2 tt_ok sg0 rfl rfl trivial ?_
  refine WL.nil ?_
  refine QT.n ?_
  refine WC.seq ?_
  refine WC.region ?_
  refine WL.run 1 tt_ok sg0 rfl rfl trivial ?_
  obtain ⟨x1, hx1, H⟩ := of_bind H
  refine WL.call [2090] (frame_Pop_s 2090 rfl _ _ hx1) frame_Pop_f rfl rfl trivial rfl rfl rfl ?_
  refine WL.run 7 tt_ok sg0 rfl rfl trivial ?_
  refine WL.nil ?_
  refine QT.n ?_
  refine WC.seq ?_
  refine WC.seq ?_
  refine WC.region ?_
  refine WL.run 2 tt_ok sg0 rfl rfl trivial ?_
  refine WL.nil ?_
  refine QT.n ?_
  refine WC.cond rfl (fun h2 => ?_) (fun h2 => ?_)
  · replace H := of_t H h2
    refine WC.seq ?_
    refine WC.region ?_
    refine WL.run 2 tt_ok sg0 rfl rfl trivial ?_
    refine WL.nil ?_
    refine QT.n ?_
    refine WC.ret ?_
    refine QT.r ?_
    cases H
    exact Ends.auto rfl rfl rfl trivial
  replace H := of_f H h2
  refine WC.skip ?_
  refine QT.n ?_
  refine WC.seq ?_
  refine WC.region ?_
  obtain ⟨g3, H⟩ := of_need H
  refine WL.run 5 tt_ok sg0 rfl rfl ⟨⟨(nIn_ok g3).1, (nIn_ok g3).2, rfl⟩, trivial⟩ ?_
  refine WL.nil ?_
  refine QT.n ?_
  refine WC.ret ?_
  cases H
  exact Ends.auto rfl rfl rfl trivial
theorem frame_Top_f : hasFunc Try.prog 43 Try.f43 := ⟨Try.func43, rfl, by kernel_rfl⟩

/-! ### logjam/frame.Push -/
theorem frame_Push_0 (a0 : List T_api_Frame) (a1 : Int) {r : (List T_api_Frame) × Bool} (H : frame_Push a0 a1 = some r) : LJ.Spec Try.prog 44 [.d (slT enc_api_Frame a0), .d (.int .i64 a1)] [] (.tup [.d (slT enc_api_Frame r.1), .d (.bool r.2)]) [] := by
  refine LJ.Spec.code Try.func44 rfl 47 rfl rfl [] rfl fun w0 F0 S0 B0 => ?_
  unfold frame_Push at H
  refine WC.seq ?_
  refine WC.region ?_
  refine WL.run 2 tt_ok sg0 rfl rfl trivial ?_
  refine WL.nil ?_
  refine QT.n ?_
  refine WC.seq ?_
  refine WC.region ?_
  refine WL.run 1 tt_ok sg0 rfl rfl trivial ?_
  cases h1 : iEq (a0.length : Int) 0
  · replace H := of_f H h1
    obtain ⟨x2, hx2, H⟩ := of_bind H
    refine WL.call [2100] (frame_last_o_s 2100 rfl _ h1 hx2) frame_last_o_f rfl rfl trivial rfl rfl rfl ?_
    obtain ⟨g3, H⟩ := of_need H
    refine WL.run 5 tt_ok sg0 rfl rfl trivial ?_
    refine WL.nil ?_
    refine QT.n ?_
    refine WC.seq ?_
    refine WC.seq ?_
    refine WC.region ?_
    refine WL.run 1 tt_ok sg0 rfl rfl trivial ?_
    refine WL.yv (LJ.Y.req rfl rfl rfl (by kernel_rfl)) rfl rfl rfl ?_
    refine WL.run 1 tt_ok sg0 rfl rfl trivial ?_
    refine WL.grun 2 2 false 15 tt_ok sg0 rfl rfl rfl rfl trivial ?_
    refine WL.gyv (LJ.Y.fieldRel (fo := 2) rfl rfl (by kernel_rfl)) rfl rfl rfl rfl rfl rfl ?_
    refine WL.gyv (LJ.Y.loadRel enc_api_Frame x2 (IntKind.i64.wrap ((((([] : List T_api_Frame) ++ a0).map enc_api_Frame).length : Int) - 1)) 2 rfl rfl (fun _ => rfl) rfl (by kernel_rfl) rfl (by first | exact nIn_ok g3 | (have := nIn_ok g3; simpa only [List.length_set, List.length_map] using this))) rfl rfl rfl rfl rfl rfl ?_
    refine WL.grun 1 2 false 15 tt_ok sg0 rfl rfl rfl rfl trivial ?_
    refine WL.pickF rfl rfl rfl rfl rfl rfl ?_
    refine WL.run 1 tt_ok sg0 rfl rfl trivial ?_
    refine WL.split (g := 22) rfl (fun h4 => ?_) (fun h4 => ?_)
    · replace H := of_t H h4
      refine WL.gskips 5 9 false 22 rfl rfl rfl rfl ?_
      refine WL.pickT rfl rfl rfl rfl rfl rfl ?_
      refine WL.nil ?_
      refine QT.n ?_
      refine WC.cond rfl (fun h => ?_) (fun h => absurd h (by decide))
      refine WC.seq ?_
      refine WC.region ?_
      refine WL.run 2 tt_ok sg0 rfl rfl trivial ?_
      refine WL.nil ?_
      refine QT.n ?_
      refine WC.nilT 4 enc_api_Frame rfl ?_
      refine WC.ret ?_
      refine QT.r ?_
      cases H
      exact Ends.auto rfl rfl rfl trivial
    · replace H := of_f H h4
      refine WL.grun 2 9 false 22 tt_ok sg0 rfl rfl rfl rfl trivial ?_
      refine WL.gyv (LJ.Y.fieldRel (fo := 2) rfl rfl (by kernel_rfl)) rfl rfl rfl rfl rfl rfl ?_
      refine WL.gyv (LJ.Y.loadRel enc_api_Frame x2 (IntKind.i64.wrap ((((([] : List T_api_Frame) ++ a0).map enc_api_Frame).length : Int) - 1)) 2 rfl rfl (fun _ => rfl) rfl (by kernel_rfl) rfl (by first | exact nIn_ok g3 | (have := nIn_ok g3; simpa only [List.length_set, List.length_map] using this))) rfl rfl rfl rfl rfl rfl ?_
      refine WL.grun 1 9 false 22 tt_ok sg0 rfl rfl rfl rfl trivial ?_
      refine WL.pickF rfl rfl rfl rfl rfl rfl ?_
      refine WL.nil ?_
      refine QT.n ?_
      refine WC.cond rfl (fun h5 => ?_) (fun h5 => ?_)
      · replace H := of_t H h5
        refine WC.seq ?_
        refine WC.region ?_
        refine WL.run 2 tt_ok sg0 rfl rfl trivial ?_
        refine WL.nil ?_
        refine QT.n ?_
        refine WC.nilT 4 enc_api_Frame rfl ?_
        refine WC.ret ?_
        refine QT.r ?_
        cases H
        exact Ends.auto rfl rfl rfl trivial
      replace H := of_f H h5
      refine WC.skip ?_
      refine QT.n ?_
      refine WC.seq ?_
      obtain ⟨x4_6_1, hx4_6_1, H⟩ := of_bind H
      obtain ⟨g4_9_1, H⟩ := of_need H
      refine WC.heldF [(6, .own 2100), (7, .rel 2100 ((IntKind.i64.wrap ((((([] : List T_api_Frame) ++ a0).map enc_api_Frame).length : Int) - 1)).toNat * 27))] [(2100, .row 45 27 ((x2.set (IntKind.i64.wrap ((((([] : List T_api_Frame) ++ a0).map enc_api_Frame).length : Int) - 1)).toNat (⟨(x2.getD (IntKind.i64.wrap ((((([] : List T_api_Frame) ++ a0).map enc_api_Frame).length : Int) - 1)).toNat default).Fn, (x2.getD (IntKind.i64.wrap ((((([] : List T_api_Frame) ++ a0).map enc_api_Frame).length : Int) - 1)).toNat default).Pc, (x2.getD (IntKind.i64.wrap ((((([] : List T_api_Frame) ++ a0).map enc_api_Frame).length : Int) - 1)).toNat default).N, ((x2.getD (IntKind.i64.wrap ((((([] : List T_api_Frame) ++ a0).map enc_api_Frame).length : Int) - 1)).toNat default).L), (aset 16 ((x2.getD (IntKind.i64.wrap ((((([] : List T_api_Frame) ++ a0).map enc_api_Frame).length : Int) - 1)).toNat default).S) ((x2.getD (IntKind.i64.wrap ((((([] : List T_api_Frame) ++ a0).map enc_api_Frame).length : Int) - 1)).toNat default).N).toNat x4_6_1)⟩ : T_api_Frame)).map enc_api_Frame))] (.one 0 true (.one 1 true (.one 2 true (.one 3 true (.one 5 true (.one 7 true (.one 8 true (.fork (.one 4 false (.one 6 false (.one 9 true (.one 10 false .done)))) (.one 6 false (.one 4 false (.one 9 true (.one 10 false .done)))))))))))) [2100, 1002100] [] rfl (by kernel_rfl) rfl (by kernel_rfl) rfl rfl (fun _ h => h) rfl rfl rfl (fun FK NK wK K => ?_) ?_
      · refine WH.run 3 tt_ok rfl rfl rfl rfl trivial ?_
        refine WH.yv rfl (LJ.Y.fieldRel (fo := 2) rfl rfl (by kernel_rfl)) rfl rfl rfl ?_
        refine WH.run 2 tt_ok rfl rfl rfl rfl trivial ?_
        refine WH.yv rfl (LJ.Y.fieldRel (fo := 11) rfl rfl (by kernel_rfl)) rfl rfl rfl ?_
        refine WH.fork ?_ ?_
        · refine WH.yvs rfl (LJ.Y.loadRel enc_api_Frame x2 (IntKind.i64.wrap ((((([] : List T_api_Frame) ++ a0).map enc_api_Frame).length : Int) - 1)) 2 rfl rfl (fun _ => rfl) rfl (by kernel_rfl) rfl (by first | exact nIn_ok g3 | (have := nIn_ok g3; simpa only [List.length_set, List.length_map] using this))) rfl rfl rfl rfl rfl ?_
          refine WH.call [] rfl (word_Low_0 _ hx4_6_1) word_Low_f rfl rfl trivial rfl rfl rfl rfl rfl ?_
          refine WH.yv rfl (LJ.Y.idxRelA 16 ((x2.getD (IntKind.i64.wrap ((((([] : List T_api_Frame) ++ a0).map enc_api_Frame).length : Int) - 1)).toNat default).N) (by kernel_rfl) rfl rfl rfl (nIn_ok g4_9_1)) rfl rfl rfl ?_
          refine WH.step rfl (WO.storeRelA enc_api_Frame x2 16 11 (fun x : Int => DV.int .i64 x) ((x2.getD (IntKind.i64.wrap ((((([] : List T_api_Frame) ++ a0).map enc_api_Frame).length : Int) - 1)).toNat default).S) x4_6_1 (⟨(x2.getD (IntKind.i64.wrap ((((([] : List T_api_Frame) ++ a0).map enc_api_Frame).length : Int) - 1)).toNat default).Fn, (x2.getD (IntKind.i64.wrap ((((([] : List T_api_Frame) ++ a0).map enc_api_Frame).length : Int) - 1)).toNat default).Pc, (x2.getD (IntKind.i64.wrap ((((([] : List T_api_Frame) ++ a0).map enc_api_Frame).length : Int) - 1)).toNat default).N, ((x2.getD (IntKind.i64.wrap ((((([] : List T_api_Frame) ++ a0).map enc_api_Frame).length : Int) - 1)).toNat default).L), (aset 16 ((x2.getD (IntKind.i64.wrap ((((([] : List T_api_Frame) ++ a0).map enc_api_Frame).length : Int) - 1)).toNat default).S) ((x2.getD (IntKind.i64.wrap ((((([] : List T_api_Frame) ++ a0).map enc_api_Frame).length : Int) - 1)).toNat default).N).toNat x4_6_1)⟩ : T_api_Frame) (IntKind.i64.wrap ((((([] : List T_api_Frame) ++ a0).map enc_api_Frame).length : Int) - 1)) ((x2.getD (IntKind.i64.wrap ((((([] : List T_api_Frame) ++ a0).map enc_api_Frame).length : Int) - 1)).toNat default).N) rfl rfl rfl rfl (fun _ => rfl) rfl (by kernel_rfl) rfl rfl rfl (nIn_ok g4_9_1) (by first | exact nIn_ok g3 | (have := nIn_ok g3; simpa only [List.length_set, List.length_map] using this)) rfl rfl rfl) rfl rfl rfl ?_
          exact WH.nilF rfl (LessW.mk' ⟨AVle.of rfl, AVle.of rfl, trivial⟩ ⟨rfl, trivial⟩)
        · refine WH.call [] rfl (word_Low_0 _ hx4_6_1) word_Low_f rfl rfl trivial rfl rfl rfl rfl rfl ?_
          refine WH.yvs rfl (LJ.Y.loadRel enc_api_Frame x2 (IntKind.i64.wrap ((((([] : List T_api_Frame) ++ a0).map enc_api_Frame).length : Int) - 1)) 2 rfl rfl (fun _ => rfl) rfl (by kernel_rfl) rfl (by first | exact nIn_ok g3 | (have := nIn_ok g3; simpa only [List.length_set, List.length_map] using this))) rfl rfl rfl rfl rfl ?_
          refine WH.yv rfl (LJ.Y.idxRelA 16 ((x2.getD (IntKind.i64.wrap ((((([] : List T_api_Frame) ++ a0).map enc_api_Frame).length : Int) - 1)).toNat default).N) (by kernel_rfl) rfl rfl rfl (nIn_ok g4_9_1)) rfl rfl rfl ?_
          refine WH.step rfl (WO.storeRelA enc_api_Frame x2 16 11 (fun x : Int => DV.int .i64 x) ((x2.getD (IntKind.i64.wrap ((((([] : List T_api_Frame) ++ a0).map enc_api_Frame).length : Int) - 1)).toNat default).S) x4_6_1 (⟨(x2.getD (IntKind.i64.wrap ((((([] : List T_api_Frame) ++ a0).map enc_api_Frame).length : Int) - 1)).toNat default).Fn, (x2.getD (IntKind.i64.wrap ((((([] : List T_api_Frame) ++ a0).map enc_api_Frame).length : Int) - 1)).toNat default).Pc, (x2.getD (IntKind.i64.wrap ((((([] : List T_api_Frame) ++ a0).map enc_api_Frame).length : Int) - 1)).toNat default).N, ((x2.getD (IntKind.i64.wrap ((((([] : List T_api_Frame) ++ a0).map enc_api_Frame).length : Int) - 1)).toNat default).L), (aset 16 ((x2.getD (IntKind.i64.wrap ((((([] : List T_api_Frame) ++ a0).map enc_api_Frame).length : Int) - 1)).toNat default).S) ((x2.getD (IntKind.i64.wrap ((((([] : List T_api_Frame) ++ a0).map enc_api_Frame).length : Int) - 1)).toNat default).N).toNat x4_6_1)⟩ : T_api_Frame) (IntKind.i64.wrap ((((([] : List T_api_Frame) ++ a0).map enc_api_Frame).length : Int) - 1)) ((x2.getD (IntKind.i64.wrap ((((([] : List T_api_Frame) ++ a0).map enc_api_Frame).length : Int) - 1)).toNat default).N) rfl rfl rfl rfl (fun _ => rfl) rfl (by kernel_rfl) rfl rfl rfl (nIn_ok g4_9_1) (by first | exact nIn_ok g3 | (have := nIn_ok g3; simpa only [List.length_set, List.length_map] using this)) rfl rfl rfl) rfl rfl rfl ?_
          exact WH.nilF rfl (LessW.mk' ⟨AVle.of rfl, AVle.of rfl, trivial⟩ ⟨rfl, trivial⟩)
      · refine QT.n ?_
        refine WC.seq ?_
        refine WC.region ?_
        refine WL.run 2 tt_ok sg0 rfl rfl trivial ?_
        refine WL.yv (LJ.Y.fieldRel (fo := 2) rfl rfl (by kernel_rfl)) rfl rfl rfl ?_
        refine WL.yv (LJ.Y.loadRel enc_api_Frame (x2.set (IntKind.i64.wrap ((((([] : List T_api_Frame) ++ a0).map enc_api_Frame).length : Int) - 1)).toNat (⟨(x2.getD (IntKind.i64.wrap ((((([] : List T_api_Frame) ++ a0).map enc_api_Frame).length : Int) - 1)).toNat default).Fn, (x2.getD (IntKind.i64.wrap ((((([] : List T_api_Frame) ++ a0).map enc_api_Frame).length : Int) - 1)).toNat default).Pc, (x2.getD (IntKind.i64.wrap ((((([] : List T_api_Frame) ++ a0).map enc_api_Frame).length : Int) - 1)).toNat default).N, ((x2.getD (IntKind.i64.wrap ((((([] : List T_api_Frame) ++ a0).map enc_api_Frame).length : Int) - 1)).toNat default).L), (aset 16 ((x2.getD (IntKind.i64.wrap ((((([] : List T_api_Frame) ++ a0).map enc_api_Frame).length : Int) - 1)).toNat default).S) ((x2.getD (IntKind.i64.wrap ((((([] : List T_api_Frame) ++ a0).map enc_api_Frame).length : Int) - 1)).toNat default).N).toNat x4_6_1)⟩ : T_api_Frame)) (IntKind.i64.wrap ((((([] : List T_api_Frame) ++ a0).map enc_api_Frame).length : Int) - 1)) 2 rfl rfl (fun _ => rfl) rfl (by kernel_rfl) rfl (by first | exact nIn_ok g3 | (have := nIn_ok g3; simpa only [List.length_set, List.length_map] using this))) rfl rfl rfl ?_
        refine WL.run 2 tt_ok sg0 rfl rfl trivial ?_
        refine WL.yv (LJ.Y.fieldRel (fo := 2) rfl rfl (by kernel_rfl)) rfl rfl rfl ?_
        refine WL.storeRel enc_api_Frame (x2.set (IntKind.i64.wrap ((((([] : List T_api_Frame) ++ a0).map enc_api_Frame).length : Int) - 1)).toNat (⟨(x2.getD (IntKind.i64.wrap ((((([] : List T_api_Frame) ++ a0).map enc_api_Frame).length : Int) - 1)).toNat default).Fn, (x2.getD (IntKind.i64.wrap ((((([] : List T_api_Frame) ++ a0).map enc_api_Frame).length : Int) - 1)).toNat default).Pc, (x2.getD (IntKind.i64.wrap ((((([] : List T_api_Frame) ++ a0).map enc_api_Frame).length : Int) - 1)).toNat default).N, ((x2.getD (IntKind.i64.wrap ((((([] : List T_api_Frame) ++ a0).map enc_api_Frame).length : Int) - 1)).toNat default).L), (aset 16 ((x2.getD (IntKind.i64.wrap ((((([] : List T_api_Frame) ++ a0).map enc_api_Frame).length : Int) - 1)).toNat default).S) ((x2.getD (IntKind.i64.wrap ((((([] : List T_api_Frame) ++ a0).map enc_api_Frame).length : Int) - 1)).toNat default).N).toNat x4_6_1)⟩ : T_api_Frame)) (IntKind.i64.wrap ((((([] : List T_api_Frame) ++ a0).map enc_api_Frame).length : Int) - 1)) 2 (⟨((x2.set (IntKind.i64.wrap ((((([] : List T_api_Frame) ++ a0).map enc_api_Frame).length : Int) - 1)).toNat (⟨(x2.getD (IntKind.i64.wrap ((((([] : List T_api_Frame) ++ a0).map enc_api_Frame).length : Int) - 1)).toNat default).Fn, (x2.getD (IntKind.i64.wrap ((((([] : List T_api_Frame) ++ a0).map enc_api_Frame).length : Int) - 1)).toNat default).Pc, (x2.getD (IntKind.i64.wrap ((((([] : List T_api_Frame) ++ a0).map enc_api_Frame).length : Int) - 1)).toNat default).N, ((x2.getD (IntKind.i64.wrap ((((([] : List T_api_Frame) ++ a0).map enc_api_Frame).length : Int) - 1)).toNat default).L), (aset 16 ((x2.getD (IntKind.i64.wrap ((((([] : List T_api_Frame) ++ a0).map enc_api_Frame).length : Int) - 1)).toNat default).S) ((x2.getD (IntKind.i64.wrap ((((([] : List T_api_Frame) ++ a0).map enc_api_Frame).length : Int) - 1)).toNat default).N).toNat x4_6_1)⟩ : T_api_Frame)).getD (IntKind.i64.wrap ((((([] : List T_api_Frame) ++ a0).map enc_api_Frame).length : Int) - 1)).toNat default).Fn, ((x2.set (IntKind.i64.wrap ((((([] : List T_api_Frame) ++ a0).map enc_api_Frame).length : Int) - 1)).toNat (⟨(x2.getD (IntKind.i64.wrap ((((([] : List T_api_Frame) ++ a0).map enc_api_Frame).length : Int) - 1)).toNat default).Fn, (x2.getD (IntKind.i64.wrap ((((([] : List T_api_Frame) ++ a0).map enc_api_Frame).length : Int) - 1)).toNat default).Pc, (x2.getD (IntKind.i64.wrap ((((([] : List T_api_Frame) ++ a0).map enc_api_Frame).length : Int) - 1)).toNat default).N, ((x2.getD (IntKind.i64.wrap ((((([] : List T_api_Frame) ++ a0).map enc_api_Frame).length : Int) - 1)).toNat default).L), (aset 16 ((x2.getD (IntKind.i64.wrap ((((([] : List T_api_Frame) ++ a0).map enc_api_Frame).length : Int) - 1)).toNat default).S) ((x2.getD (IntKind.i64.wrap ((((([] : List T_api_Frame) ++ a0).map enc_api_Frame).length : Int) - 1)).toNat default).N).toNat x4_6_1)⟩ : T_api_Frame)).getD (IntKind.i64.wrap ((((([] : List T_api_Frame) ++ a0).map enc_api_Frame).length : Int) - 1)).toNat default).Pc, IntKind.i64.wrap ((((x2.set (IntKind.i64.wrap ((((([] : List T_api_Frame) ++ a0).map enc_api_Frame).length : Int) - 1)).toNat (⟨(x2.getD (IntKind.i64.wrap ((((([] : List T_api_Frame) ++ a0).map enc_api_Frame).length : Int) - 1)).toNat default).Fn, (x2.getD (IntKind.i64.wrap ((((([] : List T_api_Frame) ++ a0).map enc_api_Frame).length : Int) - 1)).toNat default).Pc, (x2.getD (IntKind.i64.wrap ((((([] : List T_api_Frame) ++ a0).map enc_api_Frame).length : Int) - 1)).toNat default).N, ((x2.getD (IntKind.i64.wrap ((((([] : List T_api_Frame) ++ a0).map enc_api_Frame).length : Int) - 1)).toNat default).L), (aset 16 ((x2.getD (IntKind.i64.wrap ((((([] : List T_api_Frame) ++ a0).map enc_api_Frame).length : Int) - 1)).toNat default).S) ((x2.getD (IntKind.i64.wrap ((((([] : List T_api_Frame) ++ a0).map enc_api_Frame).length : Int) - 1)).toNat default).N).toNat x4_6_1)⟩ : T_api_Frame)).getD (IntKind.i64.wrap ((((([] : List T_api_Frame) ++ a0).map enc_api_Frame).length : Int) - 1)).toNat default).N) + 1), (((x2.set (IntKind.i64.wrap ((((([] : List T_api_Frame) ++ a0).map enc_api_Frame).length : Int) - 1)).toNat (⟨(x2.getD (IntKind.i64.wrap ((((([] : List T_api_Frame) ++ a0).map enc_api_Frame).length : Int) - 1)).toNat default).Fn, (x2.getD (IntKind.i64.wrap ((((([] : List T_api_Frame) ++ a0).map enc_api_Frame).length : Int) - 1)).toNat default).Pc, (x2.getD (IntKind.i64.wrap ((((([] : List T_api_Frame) ++ a0).map enc_api_Frame).length : Int) - 1)).toNat default).N, ((x2.getD (IntKind.i64.wrap ((((([] : List T_api_Frame) ++ a0).map enc_api_Frame).length : Int) - 1)).toNat default).L), (aset 16 ((x2.getD (IntKind.i64.wrap ((((([] : List T_api_Frame) ++ a0).map enc_api_Frame).length : Int) - 1)).toNat default).S) ((x2.getD (IntKind.i64.wrap ((((([] : List T_api_Frame) ++ a0).map enc_api_Frame).length : Int) - 1)).toNat default).N).toNat x4_6_1)⟩ : T_api_Frame)).getD (IntKind.i64.wrap ((((([] : List T_api_Frame) ++ a0).map enc_api_Frame).length : Int) - 1)).toNat default).L), (((x2.set (IntKind.i64.wrap ((((([] : List T_api_Frame) ++ a0).map enc_api_Frame).length : Int) - 1)).toNat (⟨(x2.getD (IntKind.i64.wrap ((((([] : List T_api_Frame) ++ a0).map enc_api_Frame).length : Int) - 1)).toNat default).Fn, (x2.getD (IntKind.i64.wrap ((((([] : List T_api_Frame) ++ a0).map enc_api_Frame).length : Int) - 1)).toNat default).Pc, (x2.getD (IntKind.i64.wrap ((((([] : List T_api_Frame) ++ a0).map enc_api_Frame).length : Int) - 1)).toNat default).N, ((x2.getD (IntKind.i64.wrap ((((([] : List T_api_Frame) ++ a0).map enc_api_Frame).length : Int) - 1)).toNat default).L), (aset 16 ((x2.getD (IntKind.i64.wrap ((((([] : List T_api_Frame) ++ a0).map enc_api_Frame).length : Int) - 1)).toNat default).S) ((x2.getD (IntKind.i64.wrap ((((([] : List T_api_Frame) ++ a0).map enc_api_Frame).length : Int) - 1)).toNat default).N).toNat x4_6_1)⟩ : T_api_Frame)).getD (IntKind.i64.wrap ((((([] : List T_api_Frame) ++ a0).map enc_api_Frame).length : Int) - 1)).toNat default).S)⟩ : T_api_Frame) (.int .i64 (IntKind.i64.wrap ((((x2.set (IntKind.i64.wrap ((((([] : List T_api_Frame) ++ a0).map enc_api_Frame).length : Int) - 1)).toNat (⟨(x2.getD (IntKind.i64.wrap ((((([] : List T_api_Frame) ++ a0).map enc_api_Frame).length : Int) - 1)).toNat default).Fn, (x2.getD (IntKind.i64.wrap ((((([] : List T_api_Frame) ++ a0).map enc_api_Frame).length : Int) - 1)).toNat default).Pc, (x2.getD (IntKind.i64.wrap ((((([] : List T_api_Frame) ++ a0).map enc_api_Frame).length : Int) - 1)).toNat default).N, ((x2.getD (IntKind.i64.wrap ((((([] : List T_api_Frame) ++ a0).map enc_api_Frame).length : Int) - 1)).toNat default).L), (aset 16 ((x2.getD (IntKind.i64.wrap ((((([] : List T_api_Frame) ++ a0).map enc_api_Frame).length : Int) - 1)).toNat default).S) ((x2.getD (IntKind.i64.wrap ((((([] : List T_api_Frame) ++ a0).map enc_api_Frame).length : Int) - 1)).toNat default).N).toNat x4_6_1)⟩ : T_api_Frame)).getD (IntKind.i64.wrap ((((([] : List T_api_Frame) ++ a0).map enc_api_Frame).length : Int) - 1)).toNat default).N) + 1))) rfl rfl rfl rfl (fun _ => rfl) rfl (by kernel_rfl) rfl rfl (by first | exact nIn_ok g3 | (have := nIn_ok g3; simpa only [List.length_set, List.length_map] using this)) rfl rfl rfl rfl ?_
        refine WL.nil ?_
        refine QT.n ?_
        refine WC.seq ?_
        refine WC.region ?_
        refine WL.run 3 tt_ok sg0 rfl rfl trivial ?_
        refine WL.nil ?_
        refine QT.n ?_
        refine WC.freezeT 2100 enc_api_Frame ((x2.set (IntKind.i64.wrap ((((([] : List T_api_Frame) ++ a0).map enc_api_Frame).length : Int) - 1)).toNat (⟨(x2.getD (IntKind.i64.wrap ((((([] : List T_api_Frame) ++ a0).map enc_api_Frame).length : Int) - 1)).toNat default).Fn, (x2.getD (IntKind.i64.wrap ((((([] : List T_api_Frame) ++ a0).map enc_api_Frame).length : Int) - 1)).toNat default).Pc, (x2.getD (IntKind.i64.wrap ((((([] : List T_api_Frame) ++ a0).map enc_api_Frame).length : Int) - 1)).toNat default).N, ((x2.getD (IntKind.i64.wrap ((((([] : List T_api_Frame) ++ a0).map enc_api_Frame).length : Int) - 1)).toNat default).L), (aset 16 ((x2.getD (IntKind.i64.wrap ((((([] : List T_api_Frame) ++ a0).map enc_api_Frame).length : Int) - 1)).toNat default).S) ((x2.getD (IntKind.i64.wrap ((((([] : List T_api_Frame) ++ a0).map enc_api_Frame).length : Int) - 1)).toNat default).N).toNat x4_6_1)⟩ : T_api_Frame)).set (IntKind.i64.wrap ((((([] : List T_api_Frame) ++ a0).map enc_api_Frame).length : Int) - 1)).toNat (⟨((x2.set (IntKind.i64.wrap ((((([] : List T_api_Frame) ++ a0).map enc_api_Frame).length : Int) - 1)).toNat (⟨(x2.getD (IntKind.i64.wrap ((((([] : List T_api_Frame) ++ a0).map enc_api_Frame).length : Int) - 1)).toNat default).Fn, (x2.getD (IntKind.i64.wrap ((((([] : List T_api_Frame) ++ a0).map enc_api_Frame).length : Int) - 1)).toNat default).Pc, (x2.getD (IntKind.i64.wrap ((((([] : List T_api_Frame) ++ a0).map enc_api_Frame).length : Int) - 1)).toNat default).N, ((x2.getD (IntKind.i64.wrap ((((([] : List T_api_Frame) ++ a0).map enc_api_Frame).length : Int) - 1)).toNat default).L), (aset 16 ((x2.getD (IntKind.i64.wrap ((((([] : List T_api_Frame) ++ a0).map enc_api_Frame).length : Int) - 1)).toNat default).S) ((x2.getD (IntKind.i64.wrap ((((([] : List T_api_Frame) ++ a0).map enc_api_Frame).length : Int) - 1)).toNat default).N).toNat x4_6_1)⟩ : T_api_Frame)).getD (IntKind.i64.wrap ((((([] : List T_api_Frame) ++ a0).map enc_api_Frame).length : Int) - 1)).toNat default).Fn, ((x2.set (IntKind.i64.wrap ((((([] : List T_api_Frame) ++ a0).map enc_api_Frame).length : Int) - 1)).toNat (⟨(x2.getD (IntKind.i64.wrap ((((([] : List T_api_Frame) ++ a0).map enc_api_Frame).length : Int) - 1)).toNat default).Fn, (x2.getD (IntKind.i64.wrap ((((([] : List T_api_Frame) ++ a0).map enc_api_Frame).length : Int) - 1)).toNat default).Pc, (x2.getD (IntKind.i64.wrap ((((([] : List T_api_Frame) ++ a0).map enc_api_Frame).length : Int) - 1)).toNat default).N, ((x2.getD (IntKind.i64.wrap ((((([] : List T_api_Frame) ++ a0).map enc_api_Frame).length : Int) - 1)).toNat default).L), (aset 16 ((x2.getD (IntKind.i64.wrap ((((([] : List T_api_Frame) ++ a0).map enc_api_Frame).length : Int) - 1)).toNat default).S) ((x2.getD (IntKind.i64.wrap ((((([] : List T_api_Frame) ++ a0).map enc_api_Frame).length : Int) - 1)).toNat default).N).toNat x4_6_1)⟩ : T_api_Frame)).getD (IntKind.i64.wrap ((((([] : List T_api_Frame) ++ a0).map enc_api_Frame).length : Int) - 1)).toNat default).Pc, IntKind.i64.wrap ((((x2.set (IntKind.i64.wrap ((((([] : List T_api_Frame) ++ a0).map enc_api_Frame).length : Int) - 1)).toNat (⟨(x2.getD (IntKind.i64.wrap ((((([] : List T_api_Frame) ++ a0).map enc_api_Frame).length : Int) - 1)).toNat default).Fn, (x2.getD (IntKind.i64.wrap ((((([] : List T_api_Frame) ++ a0).map enc_api_Frame).length : Int) - 1)).toNat default).Pc, (x2.getD (IntKind.i64.wrap ((((([] : List T_api_Frame) ++ a0).map enc_api_Frame).length : Int) - 1)).toNat default).N, ((x2.getD (IntKind.i64.wrap ((((([] : List T_api_Frame) ++ a0).map enc_api_Frame).length : Int) - 1)).toNat default).L), (aset 16 ((x2.getD (IntKind.i64.wrap ((((([] : List T_api_Frame) ++ a0).map enc_api_Frame).length : Int) - 1)).toNat default).S) ((x2.getD (IntKind.i64.wrap ((((([] : List T_api_Frame) ++ a0).map enc_api_Frame).length : Int) - 1)).toNat default).N).toNat x4_6_1)⟩ : T_api_Frame)).getD (IntKind.i64.wrap ((((([] : List T_api_Frame) ++ a0).map enc_api_Frame).length : Int) - 1)).toNat default).N) + 1), (((x2.set (IntKind.i64.wrap ((((([] : List T_api_Frame) ++ a0).map enc_api_Frame).length : Int) - 1)).toNat (⟨(x2.getD (IntKind.i64.wrap ((((([] : List T_api_Frame) ++ a0).map enc_api_Frame).length : Int) - 1)).toNat default).Fn, (x2.getD (IntKind.i64.wrap ((((([] : List T_api_Frame) ++ a0).map enc_api_Frame).length : Int) - 1)).toNat default).Pc, (x2.getD (IntKind.i64.wrap ((((([] : List T_api_Frame) ++ a0).map enc_api_Frame).length : Int) - 1)).toNat default).N, ((x2.getD (IntKind.i64.wrap ((((([] : List T_api_Frame) ++ a0).map enc_api_Frame).length : Int) - 1)).toNat default).L), (aset 16 ((x2.getD (IntKind.i64.wrap ((((([] : List T_api_Frame) ++ a0).map enc_api_Frame).length : Int) - 1)).toNat default).S) ((x2.getD (IntKind.i64.wrap ((((([] : List T_api_Frame) ++ a0).map enc_api_Frame).length : Int) - 1)).toNat default).N).toNat x4_6_1)⟩ : T_api_Frame)).getD (IntKind.i64.wrap ((((([] : List T_api_Frame) ++ a0).map enc_api_Frame).length : Int) - 1)).toNat default).L), (((x2.set (IntKind.i64.wrap ((((([] : List T_api_Frame) ++ a0).map enc_api_Frame).length : Int) - 1)).toNat (⟨(x2.getD (IntKind.i64.wrap ((((([] : List T_api_Frame) ++ a0).map enc_api_Frame).length : Int) - 1)).toNat default).Fn, (x2.getD (IntKind.i64.wrap ((((([] : List T_api_Frame) ++ a0).map enc_api_Frame).length : Int) - 1)).toNat default).Pc, (x2.getD (IntKind.i64.wrap ((((([] : List T_api_Frame) ++ a0).map enc_api_Frame).length : Int) - 1)).toNat default).N, ((x2.getD (IntKind.i64.wrap ((((([] : List T_api_Frame) ++ a0).map enc_api_Frame).length : Int) - 1)).toNat default).L), (aset 16 ((x2.getD (IntKind.i64.wrap ((((([] : List T_api_Frame) ++ a0).map enc_api_Frame).length : Int) - 1)).toNat default).S) ((x2.getD (IntKind.i64.wrap ((((([] : List T_api_Frame) ++ a0).map enc_api_Frame).length : Int) - 1)).toNat default).N).toNat x4_6_1)⟩ : T_api_Frame)).getD (IntKind.i64.wrap ((((([] : List T_api_Frame) ++ a0).map enc_api_Frame).length : Int) - 1)).toNat default).S)⟩ : T_api_Frame)) rfl rfl rfl rfl ?_
        refine WC.ret ?_
        cases H
        exact Ends.auto rfl rfl rfl trivial
  · replace H := of_t H h1
    obtain ⟨x6, hx6, H⟩ := of_bind H
    refine WL.call [] (frame_last_n_0 _ h1 hx6) frame_last_n_f rfl rfl trivial rfl rfl rfl ?_
    refine WL.run 5 tt_ok sg0 rfl rfl trivial ?_
    refine WL.nil ?_
    refine QT.n ?_
    refine WC.seq ?_
    refine WC.seq ?_
    refine WC.region ?_
    refine WL.run 3 tt_ok sg0 rfl rfl trivial ?_
    refine WL.gskips 5 2 false 15 rfl rfl rfl rfl ?_
    refine WL.pickT rfl rfl rfl rfl rfl rfl ?_
    refine WL.run 1 tt_ok sg0 rfl rfl trivial ?_
    refine WL.gskips 5 9 false 22 rfl rfl rfl rfl ?_
    refine WL.pickT rfl rfl rfl rfl rfl rfl ?_
    refine WL.nil ?_
    refine QT.n ?_
    refine WC.cond rfl (fun h => ?_) (fun h => absurd h (by decide))
    refine WC.seq ?_
    refine WC.region ?_
    refine WL.run 2 tt_ok sg0 rfl rfl trivial ?_
    refine WL.nil ?_
    refine QT.n ?_
    refine WC.nilT 4 enc_api_Frame rfl ?_
    refine WC.ret ?_
    refine QT.r ?_
    cases H
    exact Ends.auto rfl rfl rfl trivial
theorem frame_Push_f : hasFunc Try.prog 44 Try.f44 := ⟨Try.func44, rfl, by kernel_rfl⟩

/-! ### logjam/frame.Ret -/
theorem frame_Ret_0 (a0 : List T_api_Frame) {r : (List T_api_Frame) × Int × Bool} (H : frame_Ret a0 = some r) : LJ.Spec Try.prog 21 [.d (slT enc_api_Frame a0)] [] (.tup [.d (slT enc_api_Frame r.1), .d (.int .i64 r.2.1), .d (.bool r.2.2)]) [] := by
  refine LJ.Spec.code Try.func21 rfl 33 rfl rfl [] rfl fun w0 F0 S0 B0 => ?_
  unfold frame_Ret at H
  refine WC.seq ?_
  refine WC.region ?_
  refine WL.run 3 tt_ok sg0 rfl rfl trivial ?_
  refine WL.nil ?_
  refine QT.n ?_
  refine WC.seq ?_
  refine WC.region ?_
  refine WL.run 1 tt_ok sg0 rfl rfl trivial ?_
  obtain ⟨x1, hx1, H⟩ := of_bind H
  refine WL.call [] (frame_Top_0 _ hx1) frame_Top_f rfl rfl trivial rfl rfl rfl ?_
  refine WL.run 5 tt_ok sg0 rfl rfl trivial ?_
  refine WL.nil ?_
  refine QT.n ?_
  refine WC.seq ?_
  refine WC.seq ?_
  refine WC.region ?_
  refine WL.run 2 tt_ok sg0 rfl rfl trivial ?_
  refine WL.nil ?_
  refine QT.n ?_
  refine WC.cond rfl (fun h2 => ?_) (fun h2 => ?_)
  · replace H := of_t H h2
    refine WC.seq ?_
    refine WC.region ?_
    refine WL.run 3 tt_ok sg0 rfl rfl trivial ?_
    refine WL.nil ?_
    refine QT.n ?_
    refine WC.nilT 2 enc_api_Frame rfl ?_
    refine WC.ret ?_
    refine QT.r ?_
    cases H
    exact Ends.auto rfl rfl rfl trivial
  replace H := of_f H h2
  refine WC.skip ?_
  refine QT.n ?_
  refine WC.seq ?_
  refine WC.seq ?_
  refine WC.region ?_
  refine WL.run 3 tt_ok sg0 rfl rfl trivial ?_
  refine WL.nil ?_
  refine QT.n ?_
  refine WC.cond rfl (fun h3 => ?_) (fun h3 => ?_)
  · replace H := of_t H h3
    refine WC.seq ?_
    refine WC.region ?_
    refine WL.run 4 tt_ok sg0 rfl rfl trivial ?_
    refine WL.nil ?_
    refine QT.n ?_
    refine WC.nilT 2 enc_api_Frame rfl ?_
    refine WC.ret ?_
    refine QT.r ?_
    cases H
    exact Ends.auto rfl rfl rfl trivial
  replace H := of_f H h3
  refine WC.skip ?_
  refine QT.n ?_
  refine WC.seq ?_
  refine WC.region ?_
  refine WL.run 4 tt_ok sg0 rfl rfl trivial ?_
  obtain ⟨g4, H⟩ := of_need H
  refine WL.yv (LJ.Y.sliceT enc_api_Frame a0 tt_ok rfl (fun _ => rfl) none (some (.tmp 23)) (0 : Int) (IntKind.i64.wrap ((a0.length : Int) - 1)) rfl rfl ⟨_, rfl⟩ rfl rfl (nSl_ok g4)) rfl rfl rfl ?_
  refine WL.run 1 tt_ok sg0 rfl rfl trivial ?_
  obtain ⟨x5, hx5, H⟩ := of_bind H
  refine WL.call [] (frame_Push_0 _ _ hx5) frame_Push_f rfl rfl trivial rfl rfl rfl ?_
  refine WL.run 5 tt_ok sg0 rfl rfl trivial ?_
  refine WL.nil ?_
  refine QT.n ?_
  refine WC.seq ?_
  refine WC.seq ?_
  refine WC.region ?_
  refine WL.run 2 tt_ok sg0 rfl rfl trivial ?_
  refine WL.nil ?_
  refine QT.n ?_
  refine WC.cond rfl (fun h6 => ?_) (fun h6 => ?_)
  · replace H := of_t H h6
    refine WC.seq ?_
    refine WC.region ?_
    refine WL.run 3 tt_ok sg0 rfl rfl trivial ?_
    refine WL.nil ?_
    refine QT.n ?_
    refine WC.nilT 2 enc_api_Frame rfl ?_
    refine WC.ret ?_
    refine QT.r ?_
    cases H
    exact Ends.auto rfl rfl rfl trivial
  replace H := of_f H h6
  refine WC.skip ?_
  refine QT.n ?_
  refine WC.seq ?_
  refine WC.region ?_
  refine WL.run 5 tt_ok sg0 rfl rfl trivial ?_
  refine WL.nil ?_
  refine QT.n ?_
  refine WC.ret ?_
  cases H
  exact Ends.auto rfl rfl rfl trivial
theorem frame_Ret_f : hasFunc Try.prog 21 Try.f21 := ⟨Try.func21, rfl, by kernel_rfl⟩

/-! ### logjam/op.known -/
theorem op_known_0 (a0 : Int) {r : Bool} (H : op_known a0 = some r) : LJ.Spec Try.prog 62 [.d (.int .i64 a0)] [] (.d (.bool r)) [] := by
  refine LJ.Spec.code Try.func62 rfl 9 rfl rfl [] rfl fun w0 F0 S0 B0 => ?_
  unfold op_known at H
  refine WC.seq ?_
  refine WC.region ?_
  refine WL.run 1 tt_ok sg0 rfl rfl trivial ?_
  refine WL.nil ?_
  refine QT.n ?_
  refine WC.seq ?_
  refine WC.region ?_
  refine WL.run 3 tt_ok sg0 rfl rfl trivial ?_
  refine WL.sect 2 2 true tt_ok sg0 rfl rfl (fun _ => trivial) ?_
  refine WL.run 2 tt_ok sg0 rfl rfl ⟨by first | exact id | exact fun h => by rw [h]; rfl | simp_all, trivial⟩ ?_
  refine WL.nil ?_
  refine QT.n ?_
  refine WC.ret ?_
  cases H
  exact Ends.auto rfl rfl rfl trivial
theorem op_known_f : hasFunc Try.prog 62 Try.f62 := ⟨Try.func62, rfl, by kernel_rfl⟩

/-! ### logjam/op.shape -/
theorem op_shape_0 (a0 : Int) {r : Int} (H : op_shape a0 = some r) : LJ.Spec Try.prog 45 [.d (.int .i64 a0)] [] (.d (.int .i64 r)) [] := by
  refine LJ.Spec.code Try.func45 rfl 39 rfl rfl [] rfl fun w0 F0 S0 B0 => ?_
  unfold op_shape at H
  refine WC.seq ?_
  refine WC.region ?_
  refine WL.run 1 tt_ok sg0 rfl rfl trivial ?_
  refine WL.nil ?_
  refine QT.n ?_
  refine WC.seq ?_
  refine WC.seq ?_
  refine WC.region ?_
  refine WL.run 1 tt_ok sg0 rfl rfl trivial ?_
  refine WL.nil ?_
  refine QT.n ?_
  refine WC.block ?_
  refine WC.seq ?_
  refine WC.seq ?_
  refine WC.region ?_
  refine WL.run 2 tt_ok sg0 rfl rfl trivial ?_
  refine WL.nil ?_
  refine QT.n ?_
  refine WC.cond rfl (fun h1 => ?_) (fun h1 => ?_)
  · replace H := of_t H h1
    refine WC.known (g := 4) true rfl h1 ?_
    refine WC.skip ?_
    refine QT.n ?_
    refine WC.cond rfl (fun h => ?_) (fun h => absurd h (by decide))
    refine WC.seq ?_
    refine WC.region ?_
    refine WL.run 1 tt_ok sg0 rfl rfl trivial ?_
    refine WL.nil ?_
    refine QT.n ?_
    refine WC.ret ?_
    refine QB.r (QT.r ?_)
    cases H
    exact Ends.auto rfl rfl rfl trivial
  replace H := of_f H h1
  refine WC.seq ?_
  refine WC.region ?_
  refine WL.run 2 tt_ok sg0 rfl rfl trivial ?_
  refine WL.nil ?_
  refine QT.n ?_
  refine WC.cond rfl (fun h2 => ?_) (fun h2 => ?_)
  · replace H := of_t H h2
    refine WC.known (g := 4) true rfl h2 ?_
    refine WC.skip ?_
    refine QT.n ?_
    refine WC.cond rfl (fun h => ?_) (fun h => absurd h (by decide))
    refine WC.seq ?_
    refine WC.region ?_
    refine WL.run 1 tt_ok sg0 rfl rfl trivial ?_
    refine WL.nil ?_
    refine QT.n ?_
    refine WC.ret ?_
    refine QB.r (QT.r ?_)
    cases H
    exact Ends.auto rfl rfl rfl trivial
  replace H := of_f H h2
  refine WC.seq ?_
  refine WC.region ?_
  refine WL.run 2 tt_ok sg0 rfl rfl trivial ?_
  refine WL.nil ?_
  refine QT.n ?_
  refine WC.cond rfl (fun h3 => ?_) (fun h3 => ?_)
  · replace H := of_t H h3
    refine WC.known (g := 4) true rfl h3 ?_
    refine WC.skip ?_
    refine QT.n ?_
    refine WC.cond rfl (fun h => ?_) (fun h => absurd h (by decide))
    refine WC.seq ?_
    refine WC.region ?_
    refine WL.run 1 tt_ok sg0 rfl rfl trivial ?_
    refine WL.nil ?_
    refine QT.n ?_
    refine WC.ret ?_
    refine QB.r (QT.r ?_)
    cases H
    exact Ends.auto rfl rfl rfl trivial
  replace H := of_f H h3
  refine WC.region ?_
  refine WL.run 2 tt_ok sg0 rfl rfl trivial ?_
  refine WL.nil ?_
  refine QT.n ?_
  refine WC.cond rfl (fun h4 => ?_) (fun h4 => ?_)
  · replace H := of_t H h4
    refine WC.seq ?_
    refine WC.region ?_
    refine WL.run 1 tt_ok sg0 rfl rfl trivial ?_
    refine WL.nil ?_
    refine QT.n ?_
    refine WC.ret ?_
    refine QB.r (QT.r ?_)
    cases H
    exact Ends.auto rfl rfl rfl trivial
  replace H := of_f H h4
  refine WC.seq ?_
  refine WC.seq ?_
  refine WC.region ?_
  refine WL.run 2 tt_ok sg0 rfl rfl trivial ?_
  refine WL.nil ?_
  refine QT.n ?_
  refine WC.cond rfl (fun h5 => ?_) (fun h5 => ?_)
  · replace H := of_t H h5
    refine WC.known (g := 9) true rfl h5 ?_
    refine WC.skip ?_
    refine QT.n ?_
    refine WC.cond rfl (fun h => ?_) (fun h => absurd h (by decide))
    refine WC.seq ?_
    refine WC.region ?_
    refine WL.run 1 tt_ok sg0 rfl rfl trivial ?_
    refine WL.nil ?_
    refine QT.n ?_
    refine WC.ret ?_
    refine QB.r (QT.r ?_)
    cases H
    exact Ends.auto rfl rfl rfl trivial
  replace H := of_f H h5
  refine WC.region ?_
  refine WL.run 2 tt_ok sg0 rfl rfl trivial ?_
  refine WL.nil ?_
  refine QT.n ?_
  refine WC.cond rfl (fun h6 => ?_) (fun h6 => ?_)
  · replace H := of_t H h6
    refine WC.seq ?_
    refine WC.region ?_
    refine WL.run 1 tt_ok sg0 rfl rfl trivial ?_
    refine WL.nil ?_
    refine QT.n ?_
    refine WC.ret ?_
    refine QB.r (QT.r ?_)
    cases H
    exact Ends.auto rfl rfl rfl trivial
  replace H := of_f H h6
  refine WC.seq ?_
  refine WC.region ?_
  refine WL.run 2 tt_ok sg0 rfl rfl trivial ?_
  refine WL.nil ?_
  refine QT.n ?_
  refine WC.cond rfl (fun h7 => ?_) (fun h7 => ?_)
  · replace H := of_t H h7
    refine WC.seq ?_
    refine WC.region ?_
    refine WL.run 1 tt_ok sg0 rfl rfl trivial ?_
    refine WL.nil ?_
    refine QT.n ?_
    refine WC.ret ?_
    refine QB.r (QT.r ?_)
    cases H
    exact Ends.auto rfl rfl rfl trivial
  replace H := of_f H h7
  refine WC.seq ?_
  refine WC.region ?_
  refine WL.run 2 tt_ok sg0 rfl rfl trivial ?_
  refine WL.nil ?_
  refine QT.n ?_
  refine WC.cond rfl (fun h8 => ?_) (fun h8 => ?_)
  · replace H := of_t H h8
    refine WC.seq ?_
    refine WC.region ?_
    refine WL.run 1 tt_ok sg0 rfl rfl trivial ?_
    refine WL.nil ?_
    refine QT.n ?_
    refine WC.ret ?_
    refine QB.r (QT.r ?_)
    cases H
    exact Ends.auto rfl rfl rfl trivial
  replace H := of_f H h8
  refine WC.seq ?_
  refine WC.seq ?_
  refine WC.region ?_
  refine WL.run 2 tt_ok sg0 rfl rfl trivial ?_
  refine WL.nil ?_
  refine QT.n ?_
  refine WC.cond rfl (fun h9 => ?_) (fun h9 => ?_)
  · replace H := of_t H h9
    refine WC.known (g := 16) true rfl h9 ?_
    refine WC.skip ?_
    refine QT.n ?_
    refine WC.cond rfl (fun h => ?_) (fun h => absurd h (by decide))
    refine WC.seq ?_
    refine WC.region ?_
    refine WL.run 1 tt_ok sg0 rfl rfl trivial ?_
    refine WL.nil ?_
    refine QT.n ?_
    refine WC.ret ?_
    refine QB.r (QT.r ?_)
    cases H
    exact Ends.auto rfl rfl rfl trivial
  replace H := of_f H h9
  refine WC.region ?_
  refine WL.run 2 tt_ok sg0 rfl rfl trivial ?_
  refine WL.nil ?_
  refine QT.n ?_
  refine WC.cond rfl (fun h10 => ?_) (fun h10 => ?_)
  · replace H := of_t H h10
    refine WC.seq ?_
    refine WC.region ?_
    refine WL.run 1 tt_ok sg0 rfl rfl trivial ?_
    refine WL.nil ?_
    refine QT.n ?_
    refine WC.ret ?_
    refine QB.r (QT.r ?_)
    cases H
    exact Ends.auto rfl rfl rfl trivial
  replace H := of_f H h10
  refine WC.seq ?_
  refine WC.seq ?_
  refine WC.region ?_
  refine WL.run 2 tt_ok sg0 rfl rfl trivial ?_
  refine WL.nil ?_
  refine QT.n ?_
  refine WC.cond rfl (fun h11 => ?_) (fun h11 => ?_)
  · replace H := of_t H h11
    refine WC.known (g := 19) true rfl h11 ?_
    refine WC.skip ?_
    refine QT.n ?_
    refine WC.cond rfl (fun h => ?_) (fun h => absurd h (by decide))
    refine WC.seq ?_
    refine WC.region ?_
    refine WL.run 1 tt_ok sg0 rfl rfl trivial ?_
    refine WL.nil ?_
    refine QT.n ?_
    refine WC.ret ?_
    refine QB.r (QT.r ?_)
    cases H
    exact Ends.auto rfl rfl rfl trivial
  replace H := of_f H h11
  refine WC.seq ?_
  refine WC.region ?_
  refine WL.run 2 tt_ok sg0 rfl rfl trivial ?_
  refine WL.nil ?_
  refine QT.n ?_
  refine WC.cond rfl (fun h12 => ?_) (fun h12 => ?_)
  · replace H := of_t H h12
    refine WC.known (g := 19) true rfl h12 ?_
    refine WC.skip ?_
    refine QT.n ?_
    refine WC.cond rfl (fun h => ?_) (fun h => absurd h (by decide))
    refine WC.seq ?_
    refine WC.region ?_
    refine WL.run 1 tt_ok sg0 rfl rfl trivial ?_
    refine WL.nil ?_
    refine QT.n ?_
    refine WC.ret ?_
    refine QB.r (QT.r ?_)
    cases H
    exact Ends.auto rfl rfl rfl trivial
  replace H := of_f H h12
  refine WC.seq ?_
  refine WC.region ?_
  refine WL.run 2 tt_ok sg0 rfl rfl trivial ?_
  refine WL.nil ?_
  refine QT.n ?_
  refine WC.cond rfl (fun h13 => ?_) (fun h13 => ?_)
  · replace H := of_t H h13
    refine WC.known (g := 19) true rfl h13 ?_
    refine WC.skip ?_
    refine QT.n ?_
    refine WC.cond rfl (fun h => ?_) (fun h => absurd h (by decide))
    refine WC.seq ?_
    refine WC.region ?_
    refine WL.run 1 tt_ok sg0 rfl rfl trivial ?_
    refine WL.nil ?_
    refine QT.n ?_
    refine WC.ret ?_
    refine QB.r (QT.r ?_)
    cases H
    exact Ends.auto rfl rfl rfl trivial
  replace H := of_f H h13
  refine WC.seq ?_
  refine WC.region ?_
  refine WL.run 2 tt_ok sg0 rfl rfl trivial ?_
  refine WL.nil ?_
  refine QT.n ?_
  refine WC.cond rfl (fun h14 => ?_) (fun h14 => ?_)
  · replace H := of_t H h14
    refine WC.known (g := 19) true rfl h14 ?_
    refine WC.skip ?_
    refine QT.n ?_
    refine WC.cond rfl (fun h => ?_) (fun h => absurd h (by decide))
    refine WC.seq ?_
    refine WC.region ?_
    refine WL.run 1 tt_ok sg0 rfl rfl trivial ?_
    refine WL.nil ?_
    refine QT.n ?_
    refine WC.ret ?_
    refine QB.r (QT.r ?_)
    cases H
    exact Ends.auto rfl rfl rfl trivial
  replace H := of_f H h14
  refine WC.seq ?_
  refine WC.region ?_
  refine WL.run 2 tt_ok sg0 rfl rfl trivial ?_
  refine WL.nil ?_
  refine QT.n ?_
  refine WC.cond rfl (fun h15 => ?_) (fun h15 => ?_)
  · replace H := of_t H h15
    refine WC.known (g := 19) true rfl h15 ?_
    refine WC.skip ?_
    refine QT.n ?_
    refine WC.cond rfl (fun h => ?_) (fun h => absurd h (by decide))
    refine WC.seq ?_
    refine WC.region ?_
    refine WL.run 1 tt_ok sg0 rfl rfl trivial ?_
    refine WL.nil ?_
    refine QT.n ?_
    refine WC.ret ?_
    refine QB.r (QT.r ?_)
    cases H
    exact Ends.auto rfl rfl rfl trivial
  replace H := of_f H h15
  refine WC.seq ?_
  refine WC.region ?_
  refine WL.run 2 tt_ok sg0 rfl rfl trivial ?_
  refine WL.nil ?_
  refine QT.n ?_
  refine WC.cond rfl (fun h16 => ?_) (fun h16 => ?_)
  · replace H := of_t H h16
    refine WC.known (g := 19) true rfl h16 ?_
    refine WC.skip ?_
    refine QT.n ?_
    refine WC.cond rfl (fun h => ?_) (fun h => absurd h (by decide))
    refine WC.seq ?_
    refine WC.region ?_
    refine WL.run 1 tt_ok sg0 rfl rfl trivial ?_
    refine WL.nil ?_
    refine QT.n ?_
    refine WC.ret ?_
    refine QB.r (QT.r ?_)
    cases H
    exact Ends.auto rfl rfl rfl trivial
  replace H := of_f H h16
  refine WC.seq ?_
  refine WC.region ?_
  refine WL.run 2 tt_ok sg0 rfl rfl trivial ?_
  refine WL.nil ?_
  refine QT.n ?_
  refine WC.cond rfl (fun h17 => ?_) (fun h17 => ?_)
  · replace H := of_t H h17
    refine WC.known (g := 19) true rfl h17 ?_
    refine WC.skip ?_
    refine QT.n ?_
    refine WC.cond rfl (fun h => ?_) (fun h => absurd h (by decide))
    refine WC.seq ?_
    refine WC.region ?_
    refine WL.run 1 tt_ok sg0 rfl rfl trivial ?_
    refine WL.nil ?_
    refine QT.n ?_
    refine WC.ret ?_
    refine QB.r (QT.r ?_)
    cases H
    exact Ends.auto rfl rfl rfl trivial
  replace H := of_f H h17
  refine WC.seq ?_
  refine WC.region ?_
  refine WL.run 2 tt_ok sg0 rfl rfl trivial ?_
  refine WL.nil ?_
  refine QT.n ?_
  refine WC.cond rfl (fun h18 => ?_) (fun h18 => ?_)
  · replace H := of_t H h18
    refine WC.known (g := 19) true rfl h18 ?_
    refine WC.skip ?_
    refine QT.n ?_
    refine WC.cond rfl (fun h => ?_) (fun h => absurd h (by decide))
    refine WC.seq ?_
    refine WC.region ?_
    refine WL.run 1 tt_ok sg0 rfl rfl trivial ?_
    refine WL.nil ?_
    refine QT.n ?_
    refine WC.ret ?_
    refine QB.r (QT.r ?_)
    cases H
    exact Ends.auto rfl rfl rfl trivial
  replace H := of_f H h18
  refine WC.seq ?_
  refine WC.region ?_
  refine WL.run 2 tt_ok sg0 rfl rfl trivial ?_
  refine WL.nil ?_
  refine QT.n ?_
  refine WC.cond rfl (fun h19 => ?_) (fun h19 => ?_)
  · replace H := of_t H h19
    refine WC.known (g := 19) true rfl h19 ?_
    refine WC.skip ?_
    refine QT.n ?_
    refine WC.cond rfl (fun h => ?_) (fun h => absurd h (by decide))
    refine WC.seq ?_
    refine WC.region ?_
    refine WL.run 1 tt_ok sg0 rfl rfl trivial ?_
    refine WL.nil ?_
    refine QT.n ?_
    refine WC.ret ?_
    refine QB.r (QT.r ?_)
    cases H
    exact Ends.auto rfl rfl rfl trivial
  replace H := of_f H h19
  refine WC.seq ?_
  refine WC.region ?_
  refine WL.run 2 tt_ok sg0 rfl rfl trivial ?_
  refine WL.nil ?_
  refine QT.n ?_
  refine WC.cond rfl (fun h20 => ?_) (fun h20 => ?_)
  · replace H := of_t H h20
    refine WC.known (g := 19) true rfl h20 ?_
    refine WC.skip ?_
    refine QT.n ?_
    refine WC.cond rfl (fun h => ?_) (fun h => absurd h (by decide))
    refine WC.seq ?_
    refine WC.region ?_
    refine WL.run 1 tt_ok sg0 rfl rfl trivial ?_
    refine WL.nil ?_
    refine QT.n ?_
    refine WC.ret ?_
    refine QB.r (QT.r ?_)
    cases H
    exact Ends.auto rfl rfl rfl trivial
  replace H := of_f H h20
  refine WC.region ?_
  refine WL.run 2 tt_ok sg0 rfl rfl trivial ?_
  refine WL.nil ?_
  refine QT.n ?_
  refine WC.cond rfl (fun h21 => ?_) (fun h21 => ?_)
  · replace H := of_t H h21
    refine WC.seq ?_
    refine WC.region ?_
    refine WL.run 1 tt_ok sg0 rfl rfl trivial ?_
    refine WL.nil ?_
    refine QT.n ?_
    refine WC.ret ?_
    refine QB.r (QT.r ?_)
    cases H
    exact Ends.auto rfl rfl rfl trivial
  replace H := of_f H h21
  refine WC.skip ?_
  refine QB.n (QT.n ?_)
  refine WC.seq ?_
  refine WC.seq ?_
  refine WC.region ?_
  refine WL.run 3 tt_ok sg0 rfl rfl trivial ?_
  refine WL.sect 2 2 true tt_ok sg0 rfl rfl (fun _ => trivial) ?_
  refine WL.run 1 tt_ok sg0 rfl rfl ⟨by first | exact id | exact fun h => by rw [h]; rfl | simp_all, trivial⟩ ?_
  refine WL.nil ?_
  refine QT.n ?_
  refine WC.cond rfl (fun h22 => ?_) (fun h22 => ?_)
  · replace H := of_t H h22
    refine WC.seq ?_
    refine WC.region ?_
    refine WL.run 1 tt_ok sg0 rfl rfl trivial ?_
    refine WL.nil ?_
    refine QT.n ?_
    refine WC.ret ?_
    refine QT.r ?_
    cases H
    exact Ends.auto rfl rfl rfl trivial
  replace H := of_f H h22
  refine WC.skip ?_
  refine QT.n ?_
  refine WC.seq ?_
  refine WC.seq ?_
  refine WC.region ?_
  refine WL.run 1 tt_ok sg0 rfl rfl trivial ?_
  obtain ⟨x23, hx23, H⟩ := of_bind H
  refine WL.call [] (op_known_0 _ hx23) op_known_f rfl rfl trivial rfl rfl rfl ?_
  refine WL.nil ?_
  refine QT.n ?_
  refine WC.cond rfl (fun h24 => ?_) (fun h24 => ?_)
  · replace H := of_t H h24
    refine WC.seq ?_
    refine WC.region ?_
    refine WL.run 1 tt_ok sg0 rfl rfl trivial ?_
    refine WL.nil ?_
    refine QT.n ?_
    refine WC.ret ?_
    refine QT.r ?_
    cases H
    exact Ends.auto rfl rfl rfl trivial
  replace H := of_f H h24
  refine WC.skip ?_
  refine QT.n ?_
  refine WC.seq ?_
  refine WC.region ?_
  refine WL.run 1 tt_ok sg0 rfl rfl trivial ?_
  refine WL.nil ?_
  refine QT.n ?_
  refine WC.ret ?_
  cases H
  exact Ends.auto rfl rfl rfl trivial
theorem op_shape_f : hasFunc Try.prog 45 Try.f45 := ⟨Try.func45, rfl, by kernel_rfl⟩

/-! ### logjam/op.Pops -/
theorem op_Pops_0 (a0 : T_api_Ins) (a1 : Int) {r : Int} (H : op_Pops a0 a1 = some r) : LJ.Spec Try.prog 23 [.d (.agg [.int .i64 a0.Op, .int .i64 a0.A, .int .i64 a0.B]), .d (.int .i64 a1)] [] (.d (.int .i64 r)) [] := by
  refine LJ.Spec.code Try.func23 rfl 35 rfl rfl [] rfl fun w0 F0 S0 B0 => ?_
  unfold op_Pops at H
  refine WC.seq ?_
  refine WC.region ?_
  refine WL.eff 102 tt_ok et_ok eg0 rfl rfl rfl trivial ?_
  refine WL.run 1 tt_ok sg0 rfl rfl trivial ?_
  refine WL.nil ?_
  refine QT.n ?_
  refine WC.seq ?_
  refine WC.region ?_
  refine WL.run 1 tt_ok sg0 rfl rfl trivial ?_
  refine WL.nil ?_
  refine QT.n ?_
  refine WC.seq ?_
  refine WC.seq ?_
  refine WC.region ?_
  refine WL.run 2 tt_ok sg0 rfl rfl trivial ?_
  refine WL.nil ?_
  refine QT.n ?_
  refine WC.block ?_
  obtain ⟨K1, hK1, H⟩ := of_withK H
  refine WC.cut (fun E m => ∃ s2 : Int, K1 s2 = some r ∧ LessW E m [(2, .ptr 102 0), (5, .d (.int .i64 s2))] [(102, .box 55 [.d (.int .i64 a0.Op), .d (.int .i64 a0.A), .d (.int .i64 a0.B)])]) ?_ ?_
  · refine WC.block ?_
    refine WC.seq ?_
    refine WC.block ?_
    refine WC.seq ?_
    refine WC.block ?_
    refine WC.seq ?_
    refine WC.seq ?_
    refine WC.seq ?_
    refine WC.region ?_
    refine WL.run 2 tt_ok sg0 rfl rfl trivial ?_
    refine WL.nil ?_
    refine QT.n ?_
    refine WC.cond rfl (fun h3 => ?_) (fun h3 => ?_)
    · replace H := of_t H h3
      refine WC.exit ?_
      refine QT.x (QT.x (QB.hit (QT.n ?_)))
      refine WC.seq ?_
      refine WC.seq ?_
      refine WC.region ?_
      refine WL.run 2 tt_ok sg0 rfl rfl trivial ?_
      refine WL.nil ?_
      refine QT.n ?_
      refine WC.ret ?_
      refine QT.r (QB.r (QT.r (QB.r (QT.r (QB.r (QT.r ?_))))))
      cases H
      exact Ends.auto rfl rfl rfl trivial
    replace H := of_f H h3
    refine WC.skip ?_
    refine QT.n ?_
    refine WC.seq ?_
    refine WC.seq ?_
    refine WC.region ?_
    refine WL.run 2 tt_ok sg0 rfl rfl trivial ?_
    refine WL.nil ?_
    refine QT.n ?_
    refine WC.cond rfl (fun h4 => ?_) (fun h4 => ?_)
    · replace H := of_t H h4
      refine WC.exit ?_
      refine QT.x (QT.x (QB.miss rfl (QT.x (QB.hit (QT.n ?_)))))
      refine WC.region ?_
      refine WL.run 3 tt_ok sg0 rfl rfl trivial ?_
      refine WL.nil ?_
      refine QB.n (QT.n ?_)
      exact ⟨IntKind.i64.wrap ((0 : Int) + 1), H, LessW.mk' ⟨AVle.of rfl, AVle.of rfl, trivial⟩ ⟨rfl, trivial⟩⟩
    replace H := of_f H h4
    refine WC.skip ?_
    refine QT.n ?_
    refine WC.seq ?_
    refine WC.region ?_
    refine WL.run 2 tt_ok sg0 rfl rfl trivial ?_
    refine WL.nil ?_
    refine QT.n ?_
    refine WC.cond rfl (fun h5 => ?_) (fun h5 => ?_)
    · replace H := of_t H h5
      refine WC.exit ?_
      refine QT.x (QB.miss rfl (QT.x (QB.miss rfl (QT.x (QB.hit (QT.n ?_))))))
      exact ⟨0, H, LessW.mk' ⟨AVle.of rfl, AVle.of rfl, trivial⟩ ⟨rfl, trivial⟩⟩
    replace H := of_f H h5
    refine WC.skip ?_
    refine QT.n ?_
    refine WC.exit ?_
    refine QB.miss rfl (QT.x (QB.miss rfl (QT.x (QB.miss rfl (QT.x (QB.hit (QT.n ?_)))))))
    refine WC.seq ?_
    refine WC.seq ?_
    refine WC.region ?_
    refine WL.run 2 tt_ok sg0 rfl rfl trivial ?_
    obtain ⟨x6, hx6, H⟩ := of_bind H
    refine WL.call [] (op_shape_0 _ hx6) op_shape_f rfl rfl trivial rfl rfl rfl ?_
    refine WL.nil ?_
    refine QT.n ?_
    refine WC.block ?_
    obtain ⟨K7, hK7, H⟩ := of_withK H
    refine WC.cut (fun E m => ∃ s8 : Int, K7 s8 = some r ∧ LessW E m [(5, .d (.int .i64 s8))] []) ?_ ?_
    · refine WC.block ?_
      refine WC.seq ?_
      refine WC.block ?_
      refine WC.seq ?_
      refine WC.seq ?_
      refine WC.seq ?_
      refine WC.region ?_
      refine WL.run 2 tt_ok sg0 rfl rfl trivial ?_
      refine WL.nil ?_
      refine QT.n ?_
      refine WC.cond rfl (fun h9 => ?_) (fun h9 => ?_)
      · replace H := of_t H h9
        refine WC.exit ?_
        refine QT.x (QT.x (QB.hit (QT.n ?_)))
        refine WC.region ?_
        refine WL.run 3 tt_ok sg0 rfl rfl trivial ?_
        refine WL.nil ?_
        refine QB.n (QT.n ?_)
        exact ⟨IntKind.i64.wrap ((0 : Int) + 1), H, LessW.mk' ⟨AVle.of rfl, trivial⟩ trivial⟩
      replace H := of_f H h9
      refine WC.skip ?_
      refine QT.n ?_
      refine WC.seq ?_
      refine WC.seq ?_
      refine WC.region ?_
      refine WL.run 2 tt_ok sg0 rfl rfl trivial ?_
      refine WL.nil ?_
      refine QT.n ?_
      refine WC.cond rfl (fun h10 => ?_) (fun h10 => ?_)
      · replace H := of_t H h10
        refine WC.known (g := 26) true rfl h10 ?_
        refine WC.skip ?_
        refine QT.n ?_
        refine WC.cond rfl (fun h => ?_) (fun h => absurd h (by decide))
        refine WC.exit ?_
        refine QT.x (QB.miss rfl (QT.x (QB.hit (QT.n ?_))))
        exact ⟨0, H, LessW.mk' ⟨AVle.of rfl, trivial⟩ trivial⟩
      replace H := of_f H h10
      refine WC.seq ?_
      refine WC.region ?_
      refine WL.run 2 tt_ok sg0 rfl rfl trivial ?_
      refine WL.nil ?_
      refine QT.n ?_
      refine WC.cond rfl (fun h11 => ?_) (fun h11 => ?_)
      · replace H := of_t H h11
        refine WC.known (g := 26) true rfl h11 ?_
        refine WC.skip ?_
        refine QT.n ?_
        refine WC.cond rfl (fun h => ?_) (fun h => absurd h (by decide))
        refine WC.exit ?_
        refine QT.x (QB.miss rfl (QT.x (QB.hit (QT.n ?_))))
        exact ⟨0, H, LessW.mk' ⟨AVle.of rfl, trivial⟩ trivial⟩
      replace H := of_f H h11
      refine WC.region ?_
      refine WL.run 2 tt_ok sg0 rfl rfl trivial ?_
      refine WL.nil ?_
      refine QT.n ?_
      refine WC.cond rfl (fun h12 => ?_) (fun h12 => ?_)
      · replace H := of_t H h12
        refine WC.exit ?_
        refine QT.x (QB.miss rfl (QT.x (QB.hit (QT.n ?_))))
        exact ⟨0, H, LessW.mk' ⟨AVle.of rfl, trivial⟩ trivial⟩
      replace H := of_f H h12
      refine WC.skip ?_
      refine QT.n ?_
      refine WC.exit ?_
      refine QB.miss rfl (QT.x (QB.miss rfl (QT.x (QB.hit (QT.n ?_)))))
      refine WC.seq ?_
      refine WC.region ?_
      refine WL.run 2 tt_ok sg0 rfl rfl trivial ?_
      refine WL.nil ?_
      refine QT.n ?_
      refine WC.ret ?_
      cases H
      exact Ends.auto rfl rfl rfl trivial
    · rintro E m ⟨s8, H, hl⟩
      refine WC.lessW hl ?_
      replace H := (hK7 _).symm.trans H
      try dsimp only at H
      refine WC.seq ?_
      refine WC.region ?_
      refine WL.run 3 tt_ok sg0 rfl rfl trivial ?_
      refine WL.nil ?_
      refine QT.n ?_
      refine WC.exit ?_
      refine QB.hit (QT.n ?_)
      refine WC.seq ?_
      refine WC.region ?_
      refine WL.run 2 tt_ok sg0 rfl rfl trivial ?_
      refine WL.nil ?_
      refine QT.n ?_
      refine WC.ret ?_
      cases H
      exact Ends.auto rfl rfl rfl trivial
  · rintro E m ⟨s2, H, hl⟩
    refine WC.lessW hl ?_
    replace H := (hK1 _).symm.trans H
    try dsimp only at H
    refine WC.seq ?_
    refine WC.seq ?_
    refine WC.region ?_
    refine WL.run 5 tt_ok sg0 rfl rfl trivial ?_
    refine WL.nil ?_
    refine QT.n ?_
    refine WC.ret ?_
    refine QT.r (QB.r (QT.r ?_))
    cases H
    exact Ends.auto rfl rfl rfl trivial
theorem op_Pops_f : hasFunc Try.prog 23 Try.f23 := ⟨Try.func23, rfl, by kernel_rfl⟩

/-! ### logjam/exec.Pure -/
theorem exec_Pure_0 (a0 : Int) {r : Bool} (H : exec_Pure a0 = some r) : LJ.Spec Try.prog 15 [.d (.int .i64 a0)] [] (.d (.bool r)) [] := by
  refine LJ.Spec.code Try.func15 rfl 9 rfl rfl [] rfl fun w0 F0 S0 B0 => ?_
  unfold exec_Pure at H
  refine WC.seq ?_
  refine WC.region ?_
  refine WL.run 1 tt_ok sg0 rfl rfl trivial ?_
  refine WL.nil ?_
  refine QT.n ?_
  refine WC.seq ?_
  refine WC.region ?_
  refine WL.run 3 tt_ok sg0 rfl rfl trivial ?_
  refine WL.sect 2 2 true tt_ok sg0 rfl rfl (fun _ => trivial) ?_
  refine WL.run 2 tt_ok sg0 rfl rfl ⟨by first | exact id | exact fun h => by rw [h]; rfl | simp_all, trivial⟩ ?_
  refine WL.nil ?_
  refine QT.n ?_
  refine WC.ret ?_
  cases H
  exact Ends.auto rfl rfl rfl trivial
theorem exec_Pure_f : hasFunc Try.prog 15 Try.f15 := ⟨Try.func15, rfl, by kernel_rfl⟩

/-! ### logjam/frame.Local -/
theorem frame_Local_0 (a0 : List T_api_Frame) (a1 : Int) {r : Int} (H : frame_Local a0 a1 = some r) : LJ.Spec Try.prog 46 [.d (slT enc_api_Frame a0), .d (.int .i64 a1)] [] (.d (.int .i64 r)) [] := by
  refine LJ.Spec.code Try.func46 rfl 25 rfl rfl [] rfl fun w0 F0 S0 B0 => ?_
  unfold frame_Local at H
  refine WC.seq ?_
  refine WC.region ?_
  refine WL.run 1 tt_ok sg0 rfl rfl trivial ?_
  refine WL.nil ?_
  refine QT.n ?_
  refine WC.seq ?_
  refine WC.seq ?_
  refine WC.region ?_
  refine WL.run 4 tt_ok sg0 rfl rfl trivial ?_
  refine WL.sect 2 3 false tt_ok sg0 rfl rfl (fun _ => trivial) ?_
  refine WL.run 2 tt_ok sg0 rfl rfl ⟨by first | exact id | exact fun h => by rw [h]; rfl | simp_all, trivial⟩ ?_
  refine WL.sect 2 7 false tt_ok sg0 rfl rfl (fun _ => trivial) ?_
  refine WL.run 1 tt_ok sg0 rfl rfl ⟨by first | exact id | exact fun h => by rw [h]; rfl | simp_all, trivial⟩ ?_
  refine WL.nil ?_
  refine QT.n ?_
  refine WC.cond rfl (fun h1 => ?_) (fun h1 => ?_)
  · replace H := of_t H h1
    refine WC.seq ?_
    refine WC.region ?_
    refine WL.run 1 tt_ok sg0 rfl rfl trivial ?_
    refine WL.nil ?_
    refine QT.n ?_
    refine WC.ret ?_
    refine QT.r ?_
    cases H
    exact Ends.auto rfl rfl rfl trivial
  replace H := of_f H h1
  refine WC.skip ?_
  refine QT.n ?_
  refine WC.seq ?_
  refine WC.region ?_
  obtain ⟨g2, H⟩ := of_need H
  refine WL.run 7 tt_ok sg0 rfl rfl ⟨⟨(nIn_ok g2).1, (nIn_ok g2).2, rfl⟩, trivial⟩ ?_
  obtain ⟨g3, H⟩ := of_need H
  refine WL.yv (LJ.Y.idxElpA 8 (fun k => .int .i64 (((a0.getD (IntKind.i64.wrap ((a0.length : Int) - 1)).toNat default).L).getD k default)) a1 (by kernel_rfl) rfl rfl rfl rfl (nIn_ok g3)) rfl rfl rfl ?_
  refine WL.run 2 tt_ok sg0 rfl rfl trivial ?_
  refine WL.nil ?_
  refine QT.n ?_
  refine WC.ret ?_
  cases H
  exact Ends.auto rfl rfl rfl trivial
theorem frame_Local_f : hasFunc Try.prog 46 Try.f46 := ⟨Try.func46, rfl, by kernel_rfl⟩

/-! ### logjam/frame.Store -/
theorem frame_Store_0 (a0 : List T_api_Frame) (a1 : Int) (a2 : Int) {r : List T_api_Frame} (H : frame_Store a0 a1 a2 = some r) : LJ.Spec Try.prog 47 [.d (slT enc_api_Frame a0), .d (.int .i64 a1), .d (.int .i64 a2)] [] (.d (slT enc_api_Frame r)) [] := by
  refine LJ.Spec.code Try.func47 rfl 32 rfl rfl [] rfl fun w0 F0 S0 B0 => ?_
  unfold frame_Store at H
  refine WC.seq ?_
  refine WC.region ?_
  refine WL.run 1 tt_ok sg0 rfl rfl trivial ?_
  refine WL.nil ?_
  refine QT.n ?_
  refine WC.seq ?_
  refine WC.region ?_
  refine WL.run 1 tt_ok sg0 rfl rfl trivial ?_
  cases h1 : iEq (a0.length : Int) 0
  · replace H := of_f H h1
    obtain ⟨x2, hx2, H⟩ := of_bind H
    refine WL.call [2110] (frame_last_o_s 2110 rfl _ h1 hx2) frame_last_o_f rfl rfl trivial rfl rfl rfl ?_
    obtain ⟨g3, H⟩ := of_need H
    refine WL.run 5 tt_ok sg0 rfl rfl trivial ?_
    refine WL.nil ?_
    refine QT.n ?_
    refine WC.seq ?_
    refine WC.seq ?_
    refine WC.region ?_
    refine WL.run 1 tt_ok sg0 rfl rfl trivial ?_
    refine WL.yv (LJ.Y.rne rfl rfl rfl (by kernel_rfl)) rfl rfl rfl ?_
    refine WL.run 1 tt_ok sg0 rfl rfl trivial ?_
    refine WL.grun 2 2 true 16 tt_ok sg0 rfl rfl rfl rfl trivial ?_
    refine WL.pickT rfl rfl rfl rfl rfl rfl ?_
    refine WL.run 1 tt_ok sg0 rfl rfl trivial ?_
    refine WL.sect 2 6 true tt_ok sg0 rfl rfl (fun _ => trivial) ?_
    refine WL.run 1 tt_ok sg0 rfl rfl ⟨by first | exact id | exact fun h => by rw [h]; rfl | simp_all, trivial⟩ ?_
    refine WL.nil ?_
    refine QT.n ?_
    refine WC.cond rfl (fun h4 => ?_) (fun h4 => ?_)
    · replace H := of_t H h4
      refine WC.heldP (.one 0 true (.one 1 true (.one 2 true (.one 4 true (.one 5 true (.one 3 false (.one 6 true (.one 7 false .done)))))))) [2110, 1002110] [] rfl (by kernel_rfl) rfl (by kernel_rfl) rfl rfl (fun _ h => h) rfl rfl rfl (fun _ _ _ h => h) fun FK NK wK K => ?_
      refine WH.run 4 tt_ok rfl rfl rfl rfl trivial ?_
      refine WH.yv rfl (LJ.Y.fieldRel (fo := 3) rfl rfl (by kernel_rfl)) rfl rfl rfl ?_
      obtain ⟨x5, hx5, H⟩ := of_bind H
      refine WH.call [] rfl (word_Low_0 _ hx5) word_Low_f rfl rfl trivial rfl rfl rfl rfl rfl ?_
      obtain ⟨g6, H⟩ := of_need H
      refine WH.yv rfl (LJ.Y.idxRelA 8 a1 (by kernel_rfl) rfl rfl rfl (nIn_ok g6)) rfl rfl rfl ?_
      refine WH.step rfl (WO.storeRelA enc_api_Frame x2 8 3 (fun x : Int => DV.int .i64 x) ((x2.getD (IntKind.i64.wrap ((((([] : List T_api_Frame) ++ a0).map enc_api_Frame).length : Int) - 1)).toNat default).L) x5 (⟨(x2.getD (IntKind.i64.wrap ((((([] : List T_api_Frame) ++ a0).map enc_api_Frame).length : Int) - 1)).toNat default).Fn, (x2.getD (IntKind.i64.wrap ((((([] : List T_api_Frame) ++ a0).map enc_api_Frame).length : Int) - 1)).toNat default).Pc, (x2.getD (IntKind.i64.wrap ((((([] : List T_api_Frame) ++ a0).map enc_api_Frame).length : Int) - 1)).toNat default).N, (aset 8 ((x2.getD (IntKind.i64.wrap ((((([] : List T_api_Frame) ++ a0).map enc_api_Frame).length : Int) - 1)).toNat default).L) a1.toNat x5), ((x2.getD (IntKind.i64.wrap ((((([] : List T_api_Frame) ++ a0).map enc_api_Frame).length : Int) - 1)).toNat default).S)⟩ : T_api_Frame) (IntKind.i64.wrap ((((([] : List T_api_Frame) ++ a0).map enc_api_Frame).length : Int) - 1)) a1 rfl rfl rfl rfl (fun _ => rfl) rfl (by kernel_rfl) rfl rfl rfl (nIn_ok g6) (by first | exact nIn_ok g3 | (have := nIn_ok g3; simpa only [List.length_set, List.length_map] using this)) rfl rfl rfl) rfl rfl rfl ?_
      refine WH.nil rfl ?_
      refine QT.n ?_
      refine WC.seq ?_
      refine WC.region ?_
      refine WL.run 2 tt_ok sg0 rfl rfl trivial ?_
      refine WL.nil ?_
      refine QT.n ?_
      refine WC.freezeT 2110 enc_api_Frame (x2.set (IntKind.i64.wrap ((((([] : List T_api_Frame) ++ a0).map enc_api_Frame).length : Int) - 1)).toNat (⟨(x2.getD (IntKind.i64.wrap ((((([] : List T_api_Frame) ++ a0).map enc_api_Frame).length : Int) - 1)).toNat default).Fn, (x2.getD (IntKind.i64.wrap ((((([] : List T_api_Frame) ++ a0).map enc_api_Frame).length : Int) - 1)).toNat default).Pc, (x2.getD (IntKind.i64.wrap ((((([] : List T_api_Frame) ++ a0).map enc_api_Frame).length : Int) - 1)).toNat default).N, (aset 8 ((x2.getD (IntKind.i64.wrap ((((([] : List T_api_Frame) ++ a0).map enc_api_Frame).length : Int) - 1)).toNat default).L) a1.toNat x5), ((x2.getD (IntKind.i64.wrap ((((([] : List T_api_Frame) ++ a0).map enc_api_Frame).length : Int) - 1)).toNat default).S)⟩ : T_api_Frame)) rfl rfl rfl rfl ?_
      refine WC.ret ?_
      cases H
      exact Ends.auto rfl rfl rfl trivial
    replace H := of_f H h4
    refine WC.skip ?_
    refine QT.n ?_
    refine WC.seq ?_
    refine WC.region ?_
    refine WL.run 2 tt_ok sg0 rfl rfl trivial ?_
    refine WL.nil ?_
    refine QT.n ?_
    refine WC.freezeT 2110 enc_api_Frame x2 rfl rfl rfl rfl ?_
    refine WC.ret ?_
    cases H
    exact Ends.auto rfl rfl rfl trivial
  · replace H := of_t H h1
    obtain ⟨x7, hx7, H⟩ := of_bind H
    refine WL.call [] (frame_last_n_0 _ h1 hx7) frame_last_n_f rfl rfl trivial rfl rfl rfl ?_
    refine WL.run 5 tt_ok sg0 rfl rfl trivial ?_
    refine WL.nil ?_
    refine QT.n ?_
    refine WC.seq ?_
    refine WC.seq ?_
    refine WC.region ?_
    refine WL.run 3 tt_ok sg0 rfl rfl trivial ?_
    refine WL.gskips 2 2 true 16 rfl rfl rfl rfl ?_
    refine WL.pickF rfl rfl rfl rfl rfl rfl ?_
    refine WL.run 1 tt_ok sg0 rfl rfl trivial ?_
    refine WL.gskips 2 6 true 20 rfl rfl rfl rfl ?_
    refine WL.pickF rfl rfl rfl rfl rfl rfl ?_
    refine WL.nil ?_
    refine QT.n ?_
    refine WC.cond rfl (fun h => absurd h (by decide)) (fun h => ?_)
    refine WC.skip ?_
    refine QT.n ?_
    refine WC.seq ?_
    refine WC.region ?_
    refine WL.run 2 tt_ok sg0 rfl rfl trivial ?_
    refine WL.nil ?_
    refine QT.n ?_
    refine WC.ret ?_
    cases H
    exact Ends.auto rfl rfl rfl trivial
theorem frame_Store_f : hasFunc Try.prog 47 Try.f47 := ⟨Try.func47, rfl, by kernel_rfl⟩

/-! ### logjam/word.Fits -/
theorem word_Fits_0 (a0 : Int) {r : Bool} (H : word_Fits a0 = some r) : LJ.Spec Try.prog 73 [.d (.int .i64 a0)] [] (.d (.bool r)) [] := by
  refine LJ.Spec.code Try.func73 rfl 8 rfl rfl [] rfl fun w0 F0 S0 B0 => ?_
  unfold word_Fits at H
  refine WC.seq ?_
  refine WC.region ?_
  refine WL.run 1 tt_ok sg0 rfl rfl trivial ?_
  refine WL.nil ?_
  refine QT.n ?_
  refine WC.seq ?_
  refine WC.region ?_
  refine WL.run 6 tt_ok sg0 rfl rfl trivial ?_
  refine WL.nil ?_
  refine QT.n ?_
  refine WC.ret ?_
  cases H
  exact Ends.auto rfl rfl rfl trivial
theorem word_Fits_f : hasFunc Try.prog 73 Try.f73 := ⟨Try.func73, rfl, by kernel_rfl⟩

/-! ### logjam/word.exact -/
theorem word_exact_0 (a0 : Int) {r : Int × Int} (H : word_exact a0 = some r) : LJ.Spec Try.prog 63 [.d (.int .i64 a0)] [] (.tup [.d (.int .i64 r.1), .d (.int .i64 r.2)]) [] := by
  refine LJ.Spec.code Try.func63 rfl 8 rfl rfl [] rfl fun w0 F0 S0 B0 => ?_
  unfold word_exact at H
  refine WC.seq ?_
  refine WC.region ?_
  refine WL.run 2 tt_ok sg0 rfl rfl trivial ?_
  refine WL.nil ?_
  refine QT.n ?_
  refine WC.seq ?_
  refine WC.seq ?_
  refine WC.region ?_
  refine WL.run 1 tt_ok sg0 rfl rfl trivial ?_
  obtain ⟨x1, hx1, H⟩ := of_bind H
  refine WL.call [] (word_Fits_0 _ hx1) word_Fits_f rfl rfl trivial rfl rfl rfl ?_
  refine WL.run 1 tt_ok sg0 rfl rfl trivial ?_
  refine WL.nil ?_
  refine QT.n ?_
  refine WC.cond rfl (fun h2 => ?_) (fun h2 => ?_)
  · replace H := of_t H h2
    refine WC.seq ?_
    refine WC.region ?_
    refine WL.run 2 tt_ok sg0 rfl rfl trivial ?_
    refine WL.nil ?_
    refine QT.n ?_
    refine WC.ret ?_
    refine QT.r ?_
    cases H
    exact Ends.auto rfl rfl rfl trivial
  replace H := of_f H h2
  refine WC.skip ?_
  refine QT.n ?_
  refine WC.seq ?_
  refine WC.region ?_
  refine WL.run 3 tt_ok sg0 rfl rfl trivial ?_
  refine WL.nil ?_
  refine QT.n ?_
  refine WC.ret ?_
  cases H
  exact Ends.auto rfl rfl rfl trivial
theorem word_exact_f : hasFunc Try.prog 63 Try.f63 := ⟨Try.func63, rfl, by kernel_rfl⟩

/-! ### logjam/word.flag -/
theorem word_flag_0 (a0 : Bool) {r : Int} (H : word_flag a0 = some r) : LJ.Spec Try.prog 64 [.d (.bool a0)] [] (.d (.int .i64 r)) [] := by
  refine LJ.Spec.code Try.func64 rfl 4 rfl rfl [] rfl fun w0 F0 S0 B0 => ?_
  unfold word_flag at H
  refine WC.seq ?_
  refine WC.region ?_
  refine WL.run 1 tt_ok sg0 rfl rfl trivial ?_
  refine WL.nil ?_
  refine QT.n ?_
  refine WC.seq ?_
  refine WC.seq ?_
  refine WC.region ?_
  refine WL.run 1 tt_ok sg0 rfl rfl trivial ?_
  refine WL.nil ?_
  refine QT.n ?_
  refine WC.cond rfl (fun h1 => ?_) (fun h1 => ?_)
  · replace H := of_t H h1
    refine WC.seq ?_
    refine WC.region ?_
    refine WL.run 1 tt_ok sg0 rfl rfl trivial ?_
    refine WL.nil ?_
    refine QT.n ?_
    refine WC.ret ?_
    refine QT.r ?_
    cases H
    exact Ends.auto rfl rfl rfl trivial
  replace H := of_f H h1
  refine WC.skip ?_
  refine QT.n ?_
  refine WC.seq ?_
  refine WC.region ?_
  refine WL.run 1 tt_ok sg0 rfl rfl trivial ?_
  refine WL.nil ?_
  refine QT.n ?_
  refine WC.ret ?_
  cases H
  exact Ends.auto rfl rfl rfl trivial
theorem word_flag_f : hasFunc Try.prog 64 Try.f64 := ⟨Try.func64, rfl, by kernel_rfl⟩

/-! ### logjam/word.Do -/
theorem word_Do_0 (a0 : Int) (a1 : Int) (a2 : Int) {r : Int × Int} (H : word_Do a0 a1 a2 = some r) : LJ.Spec Try.prog 48 [.d (.int .i64 a0), .d (.int .i64 a1), .d (.int .i64 a2)] [] (.tup [.d (.int .i64 r.1), .d (.int .i64 r.2)]) [] := by
  refine LJ.Spec.code Try.func48 rfl 112 rfl rfl [] rfl fun w0 F0 S0 B0 => ?_
  unfold word_Do at H
  refine WC.seq ?_
  refine WC.region ?_
  refine WL.run 2 tt_ok sg0 rfl rfl trivial ?_
  refine WL.nil ?_
  refine QT.n ?_
  refine WC.seq ?_
  refine WC.region ?_
  refine WL.run 6 tt_ok sg0 rfl rfl trivial ?_
  refine WL.nil ?_
  refine QT.n ?_
  refine WC.seq ?_
  refine WC.region ?_
  refine WL.run 6 tt_ok sg0 rfl rfl trivial ?_
  refine WL.nil ?_
  refine QT.n ?_
  refine WC.seq ?_
  refine WC.seq ?_
  refine WC.region ?_
  refine WL.run 1 tt_ok sg0 rfl rfl trivial ?_
  refine WL.nil ?_
  refine QT.n ?_
  refine WC.block ?_
  refine WC.seq ?_
  refine WC.region ?_
  refine WL.run 2 tt_ok sg0 rfl rfl trivial ?_
  refine WL.nil ?_
  refine QT.n ?_
  refine WC.cond rfl (fun h1 => ?_) (fun h1 => ?_)
  · replace H := of_t H h1
    refine WC.seq ?_
    refine WC.region ?_
    refine WL.run 3 tt_ok sg0 rfl rfl trivial ?_
    obtain ⟨x2, hx2, H⟩ := of_bind H
    refine WL.call [] (word_exact_0 _ hx2) word_exact_f rfl rfl trivial rfl rfl rfl ?_
    refine WL.run 4 tt_ok sg0 rfl rfl trivial ?_
    refine WL.nil ?_
    refine QT.n ?_
    refine WC.ret ?_
    refine QB.r (QT.r ?_)
    cases H
    exact Ends.auto rfl rfl rfl trivial
  replace H := of_f H h1
  refine WC.seq ?_
  refine WC.region ?_
  refine WL.run 2 tt_ok sg0 rfl rfl trivial ?_
  refine WL.nil ?_
  refine QT.n ?_
  refine WC.cond rfl (fun h3 => ?_) (fun h3 => ?_)
  · replace H := of_t H h3
    refine WC.seq ?_
    refine WC.region ?_
    refine WL.run 3 tt_ok sg0 rfl rfl trivial ?_
    obtain ⟨x4, hx4, H⟩ := of_bind H
    refine WL.call [] (word_exact_0 _ hx4) word_exact_f rfl rfl trivial rfl rfl rfl ?_
    refine WL.run 4 tt_ok sg0 rfl rfl trivial ?_
    refine WL.nil ?_
    refine QT.n ?_
    refine WC.ret ?_
    refine QB.r (QT.r ?_)
    cases H
    exact Ends.auto rfl rfl rfl trivial
  replace H := of_f H h3
  refine WC.seq ?_
  refine WC.region ?_
  refine WL.run 2 tt_ok sg0 rfl rfl trivial ?_
  refine WL.nil ?_
  refine QT.n ?_
  refine WC.cond rfl (fun h5 => ?_) (fun h5 => ?_)
  · replace H := of_t H h5
    refine WC.seq ?_
    refine WC.region ?_
    refine WL.run 3 tt_ok sg0 rfl rfl trivial ?_
    obtain ⟨x6, hx6, H⟩ := of_bind H
    refine WL.call [] (word_exact_0 _ hx6) word_exact_f rfl rfl trivial rfl rfl rfl ?_
    refine WL.run 4 tt_ok sg0 rfl rfl trivial ?_
    refine WL.nil ?_
    refine QT.n ?_
    refine WC.ret ?_
    refine QB.r (QT.r ?_)
    cases H
    exact Ends.auto rfl rfl rfl trivial
  replace H := of_f H h5
  refine WC.seq ?_
  refine WC.region ?_
  refine WL.run 2 tt_ok sg0 rfl rfl trivial ?_
  refine WL.nil ?_
  refine QT.n ?_
  refine WC.cond rfl (fun h7 => ?_) (fun h7 => ?_)
  · replace H := of_t H h7
    refine WC.seq ?_
    refine WC.region ?_
    refine WL.run 2 tt_ok sg0 rfl rfl trivial ?_
    obtain ⟨x8, hx8, H⟩ := of_bind H
    refine WL.call [] (word_exact_0 _ hx8) word_exact_f rfl rfl trivial rfl rfl rfl ?_
    refine WL.run 4 tt_ok sg0 rfl rfl trivial ?_
    refine WL.nil ?_
    refine QT.n ?_
    refine WC.ret ?_
    refine QB.r (QT.r ?_)
    cases H
    exact Ends.auto rfl rfl rfl trivial
  replace H := of_f H h7
  refine WC.seq ?_
  refine WC.seq ?_
  refine WC.region ?_
  refine WL.run 2 tt_ok sg0 rfl rfl trivial ?_
  refine WL.nil ?_
  refine QT.n ?_
  refine WC.cond rfl (fun h9 => ?_) (fun h9 => ?_)
  · replace H := of_t H h9
    refine WC.known (g := 50) true rfl h9 ?_
    refine WC.skip ?_
    refine QT.n ?_
    refine WC.cond rfl (fun h => ?_) (fun h => absurd h (by decide))
    refine WC.seq ?_
    refine WC.seq ?_
    refine WC.region ?_
    refine WL.run 2 tt_ok sg0 rfl rfl trivial ?_
    refine WL.nil ?_
    refine QT.n ?_
    refine WC.cond rfl (fun h10 => ?_) (fun h10 => ?_)
    · replace H := of_t H h10
      refine WC.seq ?_
      refine WC.region ?_
      refine WL.run 2 tt_ok sg0 rfl rfl trivial ?_
      refine WL.nil ?_
      refine QT.n ?_
      refine WC.ret ?_
      refine QT.r (QB.r (QT.r ?_))
      cases H
      exact Ends.auto rfl rfl rfl trivial
    replace H := of_f H h10
    refine WC.skip ?_
    refine QT.n ?_
    refine WC.seq ?_
    refine WC.seq ?_
    refine WC.region ?_
    refine WL.run 2 tt_ok sg0 rfl rfl trivial ?_
    refine WL.nil ?_
    refine QT.n ?_
    refine WC.cond rfl (fun h11 => ?_) (fun h11 => ?_)
    · replace H := of_t H h11
      refine WC.seq ?_
      refine WC.region ?_
      obtain ⟨g12, H⟩ := of_need H
      refine WL.run 5 tt_ok sg0 rfl rfl ⟨(nNz_ok g12), trivial⟩ ?_
      refine WL.nil ?_
      refine QT.n ?_
      refine WC.ret ?_
      refine QT.r (QB.r (QT.r ?_))
      cases H
      exact Ends.auto rfl rfl rfl trivial
    replace H := of_f H h11
    refine WC.skip ?_
    refine QT.n ?_
    refine WC.seq ?_
    refine WC.region ?_
    obtain ⟨g13, H⟩ := of_need H
    refine WL.run 3 tt_ok sg0 rfl rfl ⟨(nNz_ok g13), trivial⟩ ?_
    obtain ⟨x14, hx14, H⟩ := of_bind H
    refine WL.call [] (word_exact_0 _ hx14) word_exact_f rfl rfl trivial rfl rfl rfl ?_
    refine WL.run 4 tt_ok sg0 rfl rfl trivial ?_
    refine WL.nil ?_
    refine QT.n ?_
    refine WC.ret ?_
    refine QB.r (QT.r ?_)
    cases H
    exact Ends.auto rfl rfl rfl trivial
  replace H := of_f H h9
  refine WC.region ?_
  refine WL.run 2 tt_ok sg0 rfl rfl trivial ?_
  refine WL.nil ?_
  refine QT.n ?_
  refine WC.cond rfl (fun h15 => ?_) (fun h15 => ?_)
  · replace H := of_t H h15
    refine WC.seq ?_
    refine WC.seq ?_
    refine WC.region ?_
    refine WL.run 2 tt_ok sg0 rfl rfl trivial ?_
    refine WL.nil ?_
    refine QT.n ?_
    refine WC.cond rfl (fun h16 => ?_) (fun h16 => ?_)
    · replace H := of_t H h16
      refine WC.seq ?_
      refine WC.region ?_
      refine WL.run 2 tt_ok sg0 rfl rfl trivial ?_
      refine WL.nil ?_
      refine QT.n ?_
      refine WC.ret ?_
      refine QT.r (QB.r (QT.r ?_))
      cases H
      exact Ends.auto rfl rfl rfl trivial
    replace H := of_f H h16
    refine WC.skip ?_
    refine QT.n ?_
    refine WC.seq ?_
    refine WC.seq ?_
    refine WC.region ?_
    refine WL.run 2 tt_ok sg0 rfl rfl trivial ?_
    refine WL.nil ?_
    refine QT.n ?_
    refine WC.cond rfl (fun h17 => ?_) (fun h17 => ?_)
    · replace H := of_t H h17
      refine WC.seq ?_
      refine WC.region ?_
      obtain ⟨g18, H⟩ := of_need H
      refine WL.run 5 tt_ok sg0 rfl rfl ⟨(nNz_ok g18), trivial⟩ ?_
      refine WL.nil ?_
      refine QT.n ?_
      refine WC.ret ?_
      refine QT.r (QB.r (QT.r ?_))
      cases H
      exact Ends.auto rfl rfl rfl trivial
    replace H := of_f H h17
    refine WC.skip ?_
    refine QT.n ?_
    refine WC.seq ?_
    refine WC.region ?_
    obtain ⟨g19, H⟩ := of_need H
    refine WL.run 3 tt_ok sg0 rfl rfl ⟨(nNz_ok g19), trivial⟩ ?_
    obtain ⟨x20, hx20, H⟩ := of_bind H
    refine WL.call [] (word_exact_0 _ hx20) word_exact_f rfl rfl trivial rfl rfl rfl ?_
    refine WL.run 4 tt_ok sg0 rfl rfl trivial ?_
    refine WL.nil ?_
    refine QT.n ?_
    refine WC.ret ?_
    refine QB.r (QT.r ?_)
    cases H
    exact Ends.auto rfl rfl rfl trivial
  replace H := of_f H h15
  refine WC.seq ?_
  refine WC.region ?_
  refine WL.run 2 tt_ok sg0 rfl rfl trivial ?_
  refine WL.nil ?_
  refine QT.n ?_
  refine WC.cond rfl (fun h21 => ?_) (fun h21 => ?_)
  · replace H := of_t H h21
    refine WC.seq ?_
    refine WC.region ?_
    refine WL.run 3 tt_ok sg0 rfl rfl trivial ?_
    obtain ⟨x22, hx22, H⟩ := of_bind H
    refine WL.call [] (word_flag_0 _ hx22) word_flag_f rfl rfl trivial rfl rfl rfl ?_
    refine WL.run 2 tt_ok sg0 rfl rfl trivial ?_
    refine WL.nil ?_
    refine QT.n ?_
    refine WC.ret ?_
    refine QB.r (QT.r ?_)
    cases H
    exact Ends.auto rfl rfl rfl trivial
  replace H := of_f H h21
  refine WC.seq ?_
  refine WC.region ?_
  refine WL.run 2 tt_ok sg0 rfl rfl trivial ?_
  refine WL.nil ?_
  refine QT.n ?_
  refine WC.cond rfl (fun h23 => ?_) (fun h23 => ?_)
  · replace H := of_t H h23
    refine WC.seq ?_
    refine WC.region ?_
    refine WL.run 3 tt_ok sg0 rfl rfl trivial ?_
    obtain ⟨x24, hx24, H⟩ := of_bind H
    refine WL.call [] (word_flag_0 _ hx24) word_flag_f rfl rfl trivial rfl rfl rfl ?_
    refine WL.run 2 tt_ok sg0 rfl rfl trivial ?_
    refine WL.nil ?_
    refine QT.n ?_
    refine WC.ret ?_
    refine QB.r (QT.r ?_)
    cases H
    exact Ends.auto rfl rfl rfl trivial
  replace H := of_f H h23
  refine WC.seq ?_
  refine WC.region ?_
  refine WL.run 2 tt_ok sg0 rfl rfl trivial ?_
  refine WL.nil ?_
  refine QT.n ?_
  refine WC.cond rfl (fun h25 => ?_) (fun h25 => ?_)
  · replace H := of_t H h25
    refine WC.seq ?_
    refine WC.region ?_
    refine WL.run 6 tt_ok sg0 rfl rfl trivial ?_
    refine WL.nil ?_
    refine QT.n ?_
    refine WC.ret ?_
    refine QB.r (QT.r ?_)
    cases H
    exact Ends.auto rfl rfl rfl trivial
  replace H := of_f H h25
  refine WC.seq ?_
  refine WC.region ?_
  refine WL.run 2 tt_ok sg0 rfl rfl trivial ?_
  refine WL.nil ?_
  refine QT.n ?_
  refine WC.cond rfl (fun h26 => ?_) (fun h26 => ?_)
  · replace H := of_t H h26
    refine WC.seq ?_
    refine WC.region ?_
    refine WL.run 6 tt_ok sg0 rfl rfl trivial ?_
    refine WL.nil ?_
    refine QT.n ?_
    refine WC.ret ?_
    refine QB.r (QT.r ?_)
    cases H
    exact Ends.auto rfl rfl rfl trivial
  replace H := of_f H h26
  refine WC.seq ?_
  refine WC.region ?_
  refine WL.run 2 tt_ok sg0 rfl rfl trivial ?_
  refine WL.nil ?_
  refine QT.n ?_
  refine WC.cond rfl (fun h27 => ?_) (fun h27 => ?_)
  · replace H := of_t H h27
    refine WC.seq ?_
    refine WC.region ?_
    refine WL.run 6 tt_ok sg0 rfl rfl trivial ?_
    refine WL.nil ?_
    refine QT.n ?_
    refine WC.ret ?_
    refine QB.r (QT.r ?_)
    cases H
    exact Ends.auto rfl rfl rfl trivial
  replace H := of_f H h27
  refine WC.seq ?_
  refine WC.region ?_
  refine WL.run 2 tt_ok sg0 rfl rfl trivial ?_
  refine WL.nil ?_
  refine QT.n ?_
  refine WC.cond rfl (fun h28 => ?_) (fun h28 => ?_)
  · replace H := of_t H h28
    refine WC.seq ?_
    refine WC.region ?_
    obtain ⟨g29, H⟩ := of_need H
    refine WL.run 8 tt_ok sg0 rfl rfl ⟨(nNn_ok g29), trivial⟩ ?_
    refine WL.nil ?_
    refine QT.n ?_
    refine WC.ret ?_
    refine QB.r (QT.r ?_)
    cases H
    exact Ends.auto rfl rfl rfl trivial
  replace H := of_f H h28
  refine WC.seq ?_
  refine WC.region ?_
  refine WL.run 2 tt_ok sg0 rfl rfl trivial ?_
  refine WL.nil ?_
  refine QT.n ?_
  refine WC.cond rfl (fun h30 => ?_) (fun h30 => ?_)
  · replace H := of_t H h30
    refine WC.seq ?_
    refine WC.region ?_
    obtain ⟨g31, H⟩ := of_need H
    refine WL.run 8 tt_ok sg0 rfl rfl ⟨(nNn_ok g31), trivial⟩ ?_
    refine WL.nil ?_
    refine QT.n ?_
    refine WC.ret ?_
    refine QB.r (QT.r ?_)
    cases H
    exact Ends.auto rfl rfl rfl trivial
  replace H := of_f H h30
  refine WC.skip ?_
  refine QB.n (QT.n ?_)
  refine WC.seq ?_
  refine WC.region ?_
  refine WL.run 2 tt_ok sg0 rfl rfl trivial ?_
  refine WL.nil ?_
  refine QT.n ?_
  refine WC.ret ?_
  cases H
  exact Ends.auto rfl rfl rfl trivial
theorem word_Do_f : hasFunc Try.prog 48 Try.f48 := ⟨Try.func48, rfl, by kernel_rfl⟩

/-! ### logjam/exec.pure -/
theorem exec_pure_0 (a0 : List T_api_Frame) (a1 : T_api_Ins) (a2 : List Int) (a3 : Int) (a4 : Int) {r : (List T_api_Frame) × Int × Bool} (H : exec_pure a0 a1 a2 a3 a4 = some r) : LJ.Spec Try.prog 24 [.d (slT enc_api_Frame a0), .d (.agg [.int .i64 a1.Op, .int .i64 a1.A, .int .i64 a1.B]), .d (slT enc_i64 a2), .d (.int .i64 a3), .d (.int .i64 a4)] [] (.tup [.d (slT enc_api_Frame r.1), .d (.int .i64 r.2.1), .d (.bool r.2.2)]) [] := by
  refine LJ.Spec.code Try.func24 rfl 105 rfl rfl [] rfl fun w0 F0 S0 B0 => ?_
  unfold exec_pure at H
  refine WC.seq ?_
  refine WC.region ?_
  refine WL.eff 106 tt_ok et_ok eg0 rfl rfl rfl trivial ?_
  refine WL.run 3 tt_ok sg0 rfl rfl trivial ?_
  refine WL.nil ?_
  refine QT.n ?_
  refine WC.seq ?_
  refine WC.region ?_
  refine WL.run 1 tt_ok sg0 rfl rfl trivial ?_
  refine WL.nil ?_
  refine QT.n ?_
  refine WC.seq ?_
  refine WC.seq ?_
  refine WC.region ?_
  refine WL.run 2 tt_ok sg0 rfl rfl trivial ?_
  refine WL.nil ?_
  refine QT.n ?_
  refine WC.block ?_
  refine WC.seq ?_
  refine WC.region ?_
  refine WL.run 2 tt_ok sg0 rfl rfl trivial ?_
  refine WL.nil ?_
  refine QT.n ?_
  refine WC.cond rfl (fun h1 => ?_) (fun h1 => ?_)
  · replace H := of_t H h1
    refine WC.region ?_
    refine WL.run 3 tt_ok sg0 rfl rfl trivial ?_
    refine WL.nil ?_
    refine QB.n (QT.n ?_)
    refine WC.seq ?_
    refine WC.region ?_
    refine WL.run 2 tt_ok sg0 rfl rfl trivial ?_
    obtain ⟨x2, hx2, H⟩ := of_bind H
    refine WL.call [] (frame_Push_0 _ _ hx2) frame_Push_f rfl rfl trivial rfl rfl rfl ?_
    refine WL.run 5 tt_ok sg0 rfl rfl trivial ?_
    refine WL.nil ?_
    refine QT.n ?_
    refine WC.seq ?_
    refine WC.region ?_
    refine WL.run 5 tt_ok sg0 rfl rfl trivial ?_
    refine WL.nil ?_
    refine QT.n ?_
    refine WC.ret ?_
    cases H
    exact Ends.auto rfl rfl rfl trivial
  replace H := of_f H h1
  refine WC.seq ?_
  refine WC.region ?_
  refine WL.run 2 tt_ok sg0 rfl rfl trivial ?_
  refine WL.nil ?_
  refine QT.n ?_
  refine WC.cond rfl (fun h3 => ?_) (fun h3 => ?_)
  · replace H := of_t H h3
    refine WC.region ?_
    refine WL.run 3 tt_ok sg0 rfl rfl trivial ?_
    obtain ⟨x4, hx4, H⟩ := of_bind H
    refine WL.call [] (frame_Local_0 _ _ hx4) frame_Local_f rfl rfl trivial rfl rfl rfl ?_
    refine WL.run 1 tt_ok sg0 rfl rfl trivial ?_
    refine WL.nil ?_
    refine QB.n (QT.n ?_)
    refine WC.seq ?_
    refine WC.region ?_
    refine WL.run 2 tt_ok sg0 rfl rfl trivial ?_
    obtain ⟨x5, hx5, H⟩ := of_bind H
    refine WL.call [] (frame_Push_0 _ _ hx5) frame_Push_f rfl rfl trivial rfl rfl rfl ?_
    refine WL.run 5 tt_ok sg0 rfl rfl trivial ?_
    refine WL.nil ?_
    refine QT.n ?_
    refine WC.seq ?_
    refine WC.region ?_
    refine WL.run 5 tt_ok sg0 rfl rfl trivial ?_
    refine WL.nil ?_
    refine QT.n ?_
    refine WC.ret ?_
    cases H
    exact Ends.auto rfl rfl rfl trivial
  replace H := of_f H h3
  refine WC.seq ?_
  refine WC.region ?_
  refine WL.run 2 tt_ok sg0 rfl rfl trivial ?_
  refine WL.nil ?_
  refine QT.n ?_
  refine WC.cond rfl (fun h6 => ?_) (fun h6 => ?_)
  · replace H := of_t H h6
    refine WC.region ?_
    refine WL.run 2 tt_ok sg0 rfl rfl trivial ?_
    refine WL.nil ?_
    refine QB.n (QT.n ?_)
    refine WC.seq ?_
    refine WC.region ?_
    refine WL.run 2 tt_ok sg0 rfl rfl trivial ?_
    obtain ⟨x7, hx7, H⟩ := of_bind H
    refine WL.call [] (frame_Push_0 _ _ hx7) frame_Push_f rfl rfl trivial rfl rfl rfl ?_
    refine WL.run 5 tt_ok sg0 rfl rfl trivial ?_
    refine WL.nil ?_
    refine QT.n ?_
    refine WC.seq ?_
    refine WC.region ?_
    refine WL.run 5 tt_ok sg0 rfl rfl trivial ?_
    refine WL.nil ?_
    refine QT.n ?_
    refine WC.ret ?_
    cases H
    exact Ends.auto rfl rfl rfl trivial
  replace H := of_f H h6
  refine WC.seq ?_
  refine WC.region ?_
  refine WL.run 2 tt_ok sg0 rfl rfl trivial ?_
  refine WL.nil ?_
  refine QT.n ?_
  refine WC.cond rfl (fun h8 => ?_) (fun h8 => ?_)
  · replace H := of_t H h8
    refine WC.region ?_
    refine WL.run 2 tt_ok sg0 rfl rfl trivial ?_
    refine WL.nil ?_
    refine QB.n (QT.n ?_)
    refine WC.seq ?_
    refine WC.region ?_
    refine WL.run 2 tt_ok sg0 rfl rfl trivial ?_
    obtain ⟨x9, hx9, H⟩ := of_bind H
    refine WL.call [] (frame_Push_0 _ _ hx9) frame_Push_f rfl rfl trivial rfl rfl rfl ?_
    refine WL.run 5 tt_ok sg0 rfl rfl trivial ?_
    refine WL.nil ?_
    refine QT.n ?_
    refine WC.seq ?_
    refine WC.region ?_
    refine WL.run 5 tt_ok sg0 rfl rfl trivial ?_
    refine WL.nil ?_
    refine QT.n ?_
    refine WC.ret ?_
    cases H
    exact Ends.auto rfl rfl rfl trivial
  replace H := of_f H h8
  refine WC.seq ?_
  refine WC.region ?_
  refine WL.run 2 tt_ok sg0 rfl rfl trivial ?_
  refine WL.nil ?_
  refine QT.n ?_
  refine WC.cond rfl (fun h10 => ?_) (fun h10 => ?_)
  · replace H := of_t H h10
    refine WC.seq ?_
    refine WC.heldP (.one 0 true (.one 1 true (.one 2 true (.one 3 true (.one 4 true (.one 5 true (.one 6 false (.one 7 true (.one 8 true (.one 9 true .done)))))))))) [106] [106] rfl (by kernel_rfl) rfl (by kernel_rfl) rfl rfl (fun _ h => h) rfl rfl rfl (fun _ _ _ h => h) fun FK NK wK K => ?_
    obtain ⟨g11, H⟩ := of_need H
    refine WH.run 6 tt_ok rfl rfl rfl rfl ⟨⟨(nIn_ok g11).1, (nIn_ok g11).2, rfl⟩, trivial⟩ ?_
    obtain ⟨x12, hx12, H⟩ := of_bind H
    refine WH.call [] rfl (frame_Store_0 _ _ _ hx12) frame_Store_f rfl rfl trivial rfl rfl rfl rfl rfl ?_
    refine WH.mv rfl rfl rfl rfl rfl rfl rfl rfl rfl ?_
    refine WH.run 2 tt_ok rfl rfl rfl rfl trivial ?_
    refine WH.nil rfl ?_
    refine QT.n ?_
    refine WC.ret ?_
    refine QB.r (QT.r ?_)
    cases H
    exact Ends.auto rfl rfl rfl trivial
  replace H := of_f H h10
  refine WC.seq ?_
  refine WC.region ?_
  refine WL.run 2 tt_ok sg0 rfl rfl trivial ?_
  refine WL.nil ?_
  refine QT.n ?_
  refine WC.cond rfl (fun h13 => ?_) (fun h13 => ?_)
  · replace H := of_t H h13
    refine WC.seq ?_
    refine WC.region ?_
    refine WL.run 4 tt_ok sg0 rfl rfl trivial ?_
    refine WL.nil ?_
    refine QT.n ?_
    refine WC.ret ?_
    refine QB.r (QT.r ?_)
    cases H
    exact Ends.auto rfl rfl rfl trivial
  replace H := of_f H h13
  refine WC.seq ?_
  refine WC.region ?_
  refine WL.run 2 tt_ok sg0 rfl rfl trivial ?_
  refine WL.nil ?_
  refine QT.n ?_
  refine WC.cond rfl (fun h14 => ?_) (fun h14 => ?_)
  · replace H := of_t H h14
    refine WC.seq ?_
    refine WC.region ?_
    refine WL.run 3 tt_ok sg0 rfl rfl trivial ?_
    obtain ⟨x15, hx15, H⟩ := of_bind H
    refine WL.call [] (frame_Go_0 _ _ hx15) frame_Go_f rfl rfl trivial rfl rfl rfl ?_
    refine WL.run 3 tt_ok sg0 rfl rfl trivial ?_
    refine WL.nil ?_
    refine QT.n ?_
    refine WC.ret ?_
    refine QB.r (QT.r ?_)
    cases H
    exact Ends.auto rfl rfl rfl trivial
  replace H := of_f H h14
  refine WC.seq ?_
  refine WC.region ?_
  refine WL.run 2 tt_ok sg0 rfl rfl trivial ?_
  refine WL.nil ?_
  refine QT.n ?_
  refine WC.cond rfl (fun h16 => ?_) (fun h16 => ?_)
  · replace H := of_t H h16
    refine WC.seq ?_
    refine WC.seq ?_
    refine WC.region ?_
    obtain ⟨g17, H⟩ := of_need H
    refine WL.run 4 tt_ok sg0 rfl rfl ⟨⟨(nIn_ok g17).1, (nIn_ok g17).2, rfl⟩, trivial⟩ ?_
    refine WL.nil ?_
    refine QT.n ?_
    refine WC.cond rfl (fun h18 => ?_) (fun h18 => ?_)
    · replace H := of_t H h18
      refine WC.seq ?_
      refine WC.region ?_
      refine WL.run 3 tt_ok sg0 rfl rfl trivial ?_
      obtain ⟨x19, hx19, H⟩ := of_bind H
      refine WL.call [] (frame_Go_0 _ _ hx19) frame_Go_f rfl rfl trivial rfl rfl rfl ?_
      refine WL.run 3 tt_ok sg0 rfl rfl trivial ?_
      refine WL.nil ?_
      refine QT.n ?_
      refine WC.ret ?_
      refine QT.r (QB.r (QT.r ?_))
      cases H
      exact Ends.auto rfl rfl rfl trivial
    replace H := of_f H h18
    refine WC.skip ?_
    refine QT.n ?_
    refine WC.seq ?_
    refine WC.region ?_
    refine WL.run 4 tt_ok sg0 rfl rfl trivial ?_
    refine WL.nil ?_
    refine QT.n ?_
    refine WC.ret ?_
    refine QB.r (QT.r ?_)
    cases H
    exact Ends.auto rfl rfl rfl trivial
  replace H := of_f H h16
  refine WC.seq ?_
  refine WC.region ?_
  refine WL.run 2 tt_ok sg0 rfl rfl trivial ?_
  refine WL.nil ?_
  refine QT.n ?_
  refine WC.cond rfl (fun h20 => ?_) (fun h20 => ?_)
  · replace H := of_t H h20
    refine WC.seq ?_
    refine WC.region ?_
    obtain ⟨g21, H⟩ := of_need H
    refine WL.run 4 tt_ok sg0 rfl rfl ⟨⟨(nIn_ok g21).1, (nIn_ok g21).2, rfl⟩, trivial⟩ ?_
    obtain ⟨x22, hx22, H⟩ := of_bind H
    refine WL.call [] (frame_Push_0 _ _ hx22) frame_Push_f rfl rfl trivial rfl rfl rfl ?_
    refine WL.run 4 tt_ok sg0 rfl rfl trivial ?_
    refine WL.nil ?_
    refine QT.n ?_
    refine WC.region ?_
    obtain ⟨g23, H⟩ := of_need H
    refine WL.run 4 tt_ok sg0 rfl rfl ⟨⟨(nIn_ok g23).1, (nIn_ok g23).2, rfl⟩, trivial⟩ ?_
    refine WL.nil ?_
    refine QB.n (QT.n ?_)
    refine WC.seq ?_
    refine WC.region ?_
    refine WL.run 2 tt_ok sg0 rfl rfl trivial ?_
    obtain ⟨x24, hx24, H⟩ := of_bind H
    refine WL.call [] (frame_Push_0 _ _ hx24) frame_Push_f rfl rfl trivial rfl rfl rfl ?_
    refine WL.run 5 tt_ok sg0 rfl rfl trivial ?_
    refine WL.nil ?_
    refine QT.n ?_
    refine WC.seq ?_
    refine WC.region ?_
    refine WL.run 5 tt_ok sg0 rfl rfl trivial ?_
    refine WL.nil ?_
    refine QT.n ?_
    refine WC.ret ?_
    cases H
    exact Ends.auto rfl rfl rfl trivial
  replace H := of_f H h20
  refine WC.seq ?_
  refine WC.region ?_
  refine WL.run 2 tt_ok sg0 rfl rfl trivial ?_
  refine WL.nil ?_
  refine QT.n ?_
  refine WC.seq ?_
  refine WC.seq ?_
  refine WC.region ?_
  refine WL.run 3 tt_ok sg0 rfl rfl trivial ?_
  refine WL.nil ?_
  refine QT.n ?_
  refine WC.cond rfl (fun h25 => ?_) (fun h25 => ?_)
  · replace H := of_t H h25
    refine WC.region ?_
    obtain ⟨g26, H⟩ := of_need H
    refine WL.run 4 tt_ok sg0 rfl rfl ⟨⟨(nIn_ok g26).1, (nIn_ok g26).2, rfl⟩, trivial⟩ ?_
    refine WL.nil ?_
    refine QT.n ?_
    refine WC.seq ?_
    refine WC.heldP (.one 0 true (.one 1 true (.one 2 true (.one 3 true (.one 4 true (.one 5 true (.one 6 false (.one 7 true (.one 8 true (.one 9 true (.one 10 true (.one 11 true .done)))))))))))) [106] [106] rfl (by kernel_rfl) rfl (by kernel_rfl) rfl rfl (fun _ h => h) rfl rfl rfl (fun _ _ _ h => h) fun FK NK wK K => ?_
    obtain ⟨g27, H⟩ := of_need H
    refine WH.run 6 tt_ok rfl rfl rfl rfl ⟨⟨(nIn_ok g27).1, (nIn_ok g27).2, rfl⟩, trivial⟩ ?_
    obtain ⟨x28, hx28, H⟩ := of_bind H
    refine WH.call [] rfl (word_Do_0 _ _ _ hx28) word_Do_f rfl rfl trivial rfl rfl rfl rfl rfl ?_
    refine WH.run 5 tt_ok rfl rfl rfl rfl trivial ?_
    refine WH.nil rfl ?_
    refine QT.n ?_
    refine WC.seq ?_
    refine WC.region ?_
    refine WL.run 2 tt_ok sg0 rfl rfl trivial ?_
    refine WL.nil ?_
    refine QT.n ?_
    refine WC.cond rfl (fun h29 => ?_) (fun h29 => ?_)
    · replace H := of_t H h29
      refine WC.seq ?_
      refine WC.region ?_
      refine WL.run 4 tt_ok sg0 rfl rfl trivial ?_
      refine WL.nil ?_
      refine QT.n ?_
      refine WC.nilT 10 enc_api_Frame rfl ?_
      refine WC.ret ?_
      refine QB.r (QT.r ?_)
      cases H
      exact Ends.auto rfl rfl rfl trivial
    replace H := of_f H h29
    refine WC.skip ?_
    refine QB.n (QT.n ?_)
    refine WC.seq ?_
    refine WC.region ?_
    refine WL.run 2 tt_ok sg0 rfl rfl trivial ?_
    obtain ⟨x30, hx30, H⟩ := of_bind H
    refine WL.call [] (frame_Push_0 _ _ hx30) frame_Push_f rfl rfl trivial rfl rfl rfl ?_
    refine WL.run 5 tt_ok sg0 rfl rfl trivial ?_
    refine WL.nil ?_
    refine QT.n ?_
    refine WC.seq ?_
    refine WC.region ?_
    refine WL.run 5 tt_ok sg0 rfl rfl trivial ?_
    refine WL.nil ?_
    refine QT.n ?_
    refine WC.ret ?_
    cases H
    exact Ends.auto rfl rfl rfl trivial
  replace H := of_f H h25
  refine WC.skip ?_
  refine QT.n ?_
  refine WC.seq ?_
  refine WC.heldP (.one 0 true (.one 1 true (.one 2 true (.one 3 true (.one 4 true (.one 5 true (.one 6 false (.one 7 true (.one 8 true (.one 9 true (.one 10 true (.one 11 true .done)))))))))))) [106] [106] rfl (by kernel_rfl) rfl (by kernel_rfl) rfl rfl (fun _ h => h) rfl rfl rfl (fun _ _ _ h => h) fun FK NK wK K => ?_
  obtain ⟨g31, H⟩ := of_need H
  refine WH.run 6 tt_ok rfl rfl rfl rfl ⟨⟨(nIn_ok g31).1, (nIn_ok g31).2, rfl⟩, trivial⟩ ?_
  obtain ⟨x32, hx32, H⟩ := of_bind H
  refine WH.call [] rfl (word_Do_0 _ _ _ hx32) word_Do_f rfl rfl trivial rfl rfl rfl rfl rfl ?_
  refine WH.run 5 tt_ok rfl rfl rfl rfl trivial ?_
  refine WH.nil rfl ?_
  refine QT.n ?_
  refine WC.seq ?_
  refine WC.region ?_
  refine WL.run 2 tt_ok sg0 rfl rfl trivial ?_
  refine WL.nil ?_
  refine QT.n ?_
  refine WC.cond rfl (fun h33 => ?_) (fun h33 => ?_)
  · replace H := of_t H h33
    refine WC.seq ?_
    refine WC.region ?_
    refine WL.run 4 tt_ok sg0 rfl rfl trivial ?_
    refine WL.nil ?_
    refine QT.n ?_
    refine WC.nilT 10 enc_api_Frame rfl ?_
    refine WC.ret ?_
    refine QB.r (QT.r ?_)
    cases H
    exact Ends.auto rfl rfl rfl trivial
  replace H := of_f H h33
  refine WC.skip ?_
  refine QB.n (QT.n ?_)
  refine WC.seq ?_
  refine WC.region ?_
  refine WL.run 2 tt_ok sg0 rfl rfl trivial ?_
  obtain ⟨x34, hx34, H⟩ := of_bind H
  refine WL.call [] (frame_Push_0 _ _ hx34) frame_Push_f rfl rfl trivial rfl rfl rfl ?_
  refine WL.run 5 tt_ok sg0 rfl rfl trivial ?_
  refine WL.nil ?_
  refine QT.n ?_
  refine WC.seq ?_
  refine WC.region ?_
  refine WL.run 5 tt_ok sg0 rfl rfl trivial ?_
  refine WL.nil ?_
  refine QT.n ?_
  refine WC.ret ?_
  cases H
  exact Ends.auto rfl rfl rfl trivial
theorem exec_pure_f : hasFunc Try.prog 24 Try.f24 := ⟨Try.func24, rfl, by kernel_rfl⟩

/-! ### logjam/exec.Do -/
theorem exec_Do_0 (a0 : T_api_Program) (a1 : List T_api_Frame) (a2 : Int) (a3 : Int) {r : (List T_api_Frame) × T_api_Effect × Int} (H : exec_Do a0 a1 a2 a3 = some r) : LJ.Spec Try.prog 9 [.d (.agg [slT enc_api_Decl a0.Decls, slT enc_sl_sl_api_Need a0.Waits, slT enc_api_Func a0.Funcs]), .d (slT enc_api_Frame a1), .d (.int .i64 a2), .d (.int .i64 a3)] [] (.tup [.d (slT enc_api_Frame r.1), .d (.agg [.int .i64 r.2.1.Op, .int .i64 r.2.1.A, .int .i64 r.2.1.B, .int .i64 (r.2.1.X.getD 0 default), .int .i64 (r.2.1.X.getD 1 default), .int .i64 (r.2.1.X.getD 2 default), .int .i64 (r.2.1.X.getD 3 default), .int .i64 (r.2.1.X.getD 4 default)]), .d (.int .i64 r.2.2)]) [] := by
  refine LJ.Spec.code Try.func9 rfl 128 rfl rfl [] rfl fun w0 F0 S0 B0 => ?_
  unfold exec_Do at H
  refine WC.seq ?_
  refine WC.region ?_
  refine WL.eff 104 tt_ok et_ok eg0 rfl rfl rfl trivial ?_
  refine WL.run 1 tt_ok sg0 rfl rfl trivial ?_
  refine WL.alloc 109 tt_ok rfl rfl rfl ?_
  refine WL.run 1 tt_ok sg0 rfl rfl trivial ?_
  refine WL.nil ?_
  refine QT.n ?_
  refine WC.seq ?_
  refine WC.region ?_
  refine WL.run 1 tt_ok sg0 rfl rfl trivial ?_
  refine WL.alloc 111 tt_ok rfl rfl rfl ?_
  refine WL.eff 0 tt_ok et_ok eg0 rfl rfl rfl trivial ?_
  refine WL.nil ?_
  refine QT.n ?_
  refine WC.seq ?_
  refine WC.region ?_
  refine WL.eff 125 tt_ok et_ok eg0 rfl rfl rfl trivial ?_
  refine WL.run 1 tt_ok sg0 rfl rfl trivial ?_
  refine WL.row 125 (([] : List T_api_Frame).map enc_api_Frame) rfl rfl rfl ?_
  obtain ⟨g1, H⟩ := of_need H
  refine WL.appT enc_api_Frame ([] : List T_api_Frame) a1 tt_ok et_ok rfl rfl (fun _ => rfl) (fun _ => rfl) rfl rfl rfl rfl (nCap_ok g1) rfl rfl rfl rfl rfl ?_
  refine WL.run 1 tt_ok sg0 rfl rfl trivial ?_
  refine WL.nil ?_
  refine QT.n ?_
  refine WC.seq ?_
  refine WC.region ?_
  refine WL.run 2 tt_ok sg0 rfl rfl trivial ?_
  obtain ⟨x2, hx2, H⟩ := of_bind H
  refine WL.call [] (exec_at_0 _ _ hx2) exec_at_f rfl rfl trivial rfl rfl rfl ?_
  refine WL.run 4 tt_ok sg0 rfl rfl trivial ?_
  refine WL.alloc 113 tt_ok rfl rfl rfl ?_
  refine WL.eff 0 tt_ok et_ok eg0 rfl rfl rfl trivial ?_
  refine WL.run 2 tt_ok sg0 rfl rfl trivial ?_
  refine WL.nil ?_
  refine QT.n ?_
  refine WC.seq ?_
  refine WC.seq ?_
  refine WC.region ?_
  refine WL.run 2 tt_ok sg0 rfl rfl trivial ?_
  refine WL.nil ?_
  refine QT.n ?_
  refine WC.cond rfl (fun h3 => ?_) (fun h3 => ?_)
  · replace H := of_t H h3
    refine WC.seq ?_
    refine WC.heldP (.one 0 true (.one 1 true (.one 2 true (.one 3 false (.one 4 true .done))))) [104, 109, 111, 113] [104, 111, 113] rfl (by kernel_rfl) rfl (by kernel_rfl) rfl rfl (fun _ h => h) rfl rfl rfl (fun _ _ _ h => h) fun FK NK wK K => ?_
    refine WH.mv rfl rfl rfl rfl rfl rfl rfl rfl rfl ?_
    refine WH.run 1 tt_ok rfl rfl rfl rfl trivial ?_
    refine WH.mv rfl rfl rfl rfl rfl rfl rfl rfl rfl ?_
    refine WH.eff 0 tt_ok et_ok rfl rfl rfl rfl trivial rfl rfl ?_
    refine WH.run 1 tt_ok rfl rfl rfl rfl trivial ?_
    refine WH.nil rfl ?_
    refine QT.n ?_
    refine WC.freezeT 125 enc_api_Frame (([] : List T_api_Frame) ++ a1) rfl rfl rfl rfl ?_
    refine WC.ret ?_
    refine QT.r ?_
    cases H
    exact Ends.autoC tt_ok rfl rfl rfl trivial
  replace H := of_f H h3
  refine WC.skip ?_
  refine QT.n ?_
  refine WC.seq ?_
  refine WC.seq ?_
  refine WC.region ?_
  refine WL.run 3 tt_ok sg0 rfl rfl trivial ?_
  refine WL.nil ?_
  refine QT.n ?_
  refine WC.cond rfl (fun h4 => ?_) (fun h4 => ?_)
  · replace H := of_t H h4
    refine WC.seq ?_
    obtain ⟨x7_4_1, hx7_4_1, H⟩ := of_bind H
    obtain ⟨x7_8_1, hx7_8_1, H⟩ := of_bind H
    refine WC.heldF [(8, .d (slT enc_api_Frame x7_8_1.1)), (9, .ptr 109 0), (10, .d (.int .i64 x7_8_1.2.2))] [(109, .box 36 [.d (.int .i64 x7_8_1.2.1.Op), .d (.int .i64 x7_8_1.2.1.A), .d (.int .i64 x7_8_1.2.1.B), .d (.int .i64 (x7_8_1.2.1.X.getD 0 default)), .d (.int .i64 (x7_8_1.2.1.X.getD 1 default)), .d (.int .i64 (x7_8_1.2.1.X.getD 2 default)), .d (.int .i64 (x7_8_1.2.1.X.getD 3 default)), .d (.int .i64 (x7_8_1.2.1.X.getD 4 default))])] (.one 0 true (.one 1 true (.one 2 true (.one 3 true (.one 5 true (.one 6 true (.one 7 true (.one 4 false (.one 8 false (.fork (.one 9 false (.fork (.one 10 false (.one 11 false (.one 12 true (.one 13 false (.one 14 true .done))))) (.one 11 false (.one 10 false (.one 12 true (.one 13 false (.one 14 true .done))))))) (.fork (.one 10 false (.fork (.one 9 false (.one 11 false (.one 12 true (.one 13 false (.one 14 true .done))))) (.one 11 false (.one 9 false (.one 12 true (.one 13 false (.one 14 true .done))))))) (.one 11 false (.fork (.one 9 false (.one 10 false (.one 12 true (.one 13 false (.one 14 true .done))))) (.one 10 false (.one 9 false (.one 12 true (.one 13 false (.one 14 true .done)))))))))))))))))) [104, 109, 111, 113] [104, 111, 113] rfl (by kernel_rfl) rfl (by kernel_rfl) rfl rfl (fun _ h => h) rfl rfl rfl (fun FK NK wK K => ?_) ?_
    · refine WH.run 4 tt_ok rfl rfl rfl rfl trivial ?_
      refine WH.mv rfl rfl rfl rfl rfl rfl rfl rfl rfl ?_
      refine WH.run 2 tt_ok rfl rfl rfl rfl trivial ?_
      refine WH.call [] rfl (frame_Go_0 _ _ hx7_4_1) frame_Go_f rfl rfl trivial rfl rfl rfl rfl rfl ?_
      refine WH.freezeT 125 enc_api_Frame (([] : List T_api_Frame) ++ a1) rfl rfl rfl rfl ?_
      refine WH.call [] rfl (exec_call_0 _ _ _ _ hx7_8_1) exec_call_f rfl rfl trivial rfl rfl rfl rfl rfl ?_
      refine WH.fork ?_ (WH.fork ?_ ?_)
      · refine WH.val tt_ok rfl rfl rfl rfl rfl trivial rfl rfl ?_
        refine WH.fork ?_ ?_
        · refine WH.val tt_ok rfl rfl rfl rfl rfl trivial rfl rfl ?_
          refine WH.val tt_ok rfl rfl rfl rfl rfl trivial rfl rfl ?_
          refine WH.mv rfl rfl rfl rfl rfl rfl rfl rfl rfl ?_
          refine WH.eff 0 tt_ok et_ok rfl rfl rfl rfl trivial rfl rfl ?_
          refine WH.run 1 tt_ok rfl rfl rfl rfl trivial ?_
          exact WH.nilF rfl (LessW.mk' ⟨AVle.of rfl, AVle.of rfl, AVle.of rfl, trivial⟩ ⟨rfl, trivial⟩)
        · refine WH.val tt_ok rfl rfl rfl rfl rfl trivial rfl rfl ?_
          refine WH.val tt_ok rfl rfl rfl rfl rfl trivial rfl rfl ?_
          refine WH.mv rfl rfl rfl rfl rfl rfl rfl rfl rfl ?_
          refine WH.eff 0 tt_ok et_ok rfl rfl rfl rfl trivial rfl rfl ?_
          refine WH.run 1 tt_ok rfl rfl rfl rfl trivial ?_
          exact WH.nilF rfl (LessW.mk' ⟨AVle.of rfl, AVle.of rfl, AVle.of rfl, trivial⟩ ⟨rfl, trivial⟩)
      · refine WH.val tt_ok rfl rfl rfl rfl rfl trivial rfl rfl ?_
        refine WH.fork ?_ ?_
        · refine WH.val tt_ok rfl rfl rfl rfl rfl trivial rfl rfl ?_
          refine WH.val tt_ok rfl rfl rfl rfl rfl trivial rfl rfl ?_
          refine WH.mv rfl rfl rfl rfl rfl rfl rfl rfl rfl ?_
          refine WH.eff 0 tt_ok et_ok rfl rfl rfl rfl trivial rfl rfl ?_
          refine WH.run 1 tt_ok rfl rfl rfl rfl trivial ?_
          exact WH.nilF rfl (LessW.mk' ⟨AVle.of rfl, AVle.of rfl, AVle.of rfl, trivial⟩ ⟨rfl, trivial⟩)
        · refine WH.val tt_ok rfl rfl rfl rfl rfl trivial rfl rfl ?_
          refine WH.val tt_ok rfl rfl rfl rfl rfl trivial rfl rfl ?_
          refine WH.mv rfl rfl rfl rfl rfl rfl rfl rfl rfl ?_
          refine WH.eff 0 tt_ok et_ok rfl rfl rfl rfl trivial rfl rfl ?_
          refine WH.run 1 tt_ok rfl rfl rfl rfl trivial ?_
          exact WH.nilF rfl (LessW.mk' ⟨AVle.of rfl, AVle.of rfl, AVle.of rfl, trivial⟩ ⟨rfl, trivial⟩)
      · refine WH.val tt_ok rfl rfl rfl rfl rfl trivial rfl rfl ?_
        refine WH.fork ?_ ?_
        · refine WH.val tt_ok rfl rfl rfl rfl rfl trivial rfl rfl ?_
          refine WH.val tt_ok rfl rfl rfl rfl rfl trivial rfl rfl ?_
          refine WH.mv rfl rfl rfl rfl rfl rfl rfl rfl rfl ?_
          refine WH.eff 0 tt_ok et_ok rfl rfl rfl rfl trivial rfl rfl ?_
          refine WH.run 1 tt_ok rfl rfl rfl rfl trivial ?_
          exact WH.nilF rfl (LessW.mk' ⟨AVle.of rfl, AVle.of rfl, AVle.of rfl, trivial⟩ ⟨rfl, trivial⟩)
        · refine WH.val tt_ok rfl rfl rfl rfl rfl trivial rfl rfl ?_
          refine WH.val tt_ok rfl rfl rfl rfl rfl trivial rfl rfl ?_
          refine WH.mv rfl rfl rfl rfl rfl rfl rfl rfl rfl ?_
          refine WH.eff 0 tt_ok et_ok rfl rfl rfl rfl trivial rfl rfl ?_
          refine WH.run 1 tt_ok rfl rfl rfl rfl trivial ?_
          exact WH.nilF rfl (LessW.mk' ⟨AVle.of rfl, AVle.of rfl, AVle.of rfl, trivial⟩ ⟨rfl, trivial⟩)
    · refine QT.n ?_
      refine WC.ret ?_
      refine QT.r ?_
      cases H
      exact Ends.autoC tt_ok rfl rfl rfl trivial
  replace H := of_f H h4
  refine WC.skip ?_
  refine QT.n ?_
  refine WC.seq ?_
  refine WC.seq ?_
  refine WC.region ?_
  refine WL.run 3 tt_ok sg0 rfl rfl trivial ?_
  refine WL.nil ?_
  refine QT.n ?_
  refine WC.cond rfl (fun h5 => ?_) (fun h5 => ?_)
  · replace H := of_t H h5
    refine WC.seq ?_
    refine WC.region ?_
    refine WL.run 1 tt_ok sg0 rfl rfl trivial ?_
    obtain ⟨x6, hx6, H⟩ := of_bind H
    refine WL.call [] (frame_Ret_0 _ hx6) frame_Ret_f rfl rfl trivial rfl rfl rfl ?_
    refine WL.run 7 tt_ok sg0 rfl rfl trivial ?_
    refine WL.nil ?_
    refine QT.n ?_
    refine WC.seq ?_
    refine WC.seq ?_
    refine WC.region ?_
    refine WL.run 2 tt_ok sg0 rfl rfl trivial ?_
    refine WL.nil ?_
    refine QT.n ?_
    refine WC.cond rfl (fun h7 => ?_) (fun h7 => ?_)
    · replace H := of_t H h7
      refine WC.seq ?_
      refine WC.heldP (.one 0 true (.one 1 true (.one 2 true (.one 3 false (.one 4 true .done))))) [104, 109, 111, 113] [104, 111, 113] rfl (by kernel_rfl) rfl (by kernel_rfl) rfl rfl (fun _ h => h) rfl rfl rfl (fun _ _ _ h => h) fun FK NK wK K => ?_
      refine WH.mv rfl rfl rfl rfl rfl rfl rfl rfl rfl ?_
      refine WH.run 1 tt_ok rfl rfl rfl rfl trivial ?_
      refine WH.mv rfl rfl rfl rfl rfl rfl rfl rfl rfl ?_
      refine WH.eff 0 tt_ok et_ok rfl rfl rfl rfl trivial rfl rfl ?_
      refine WH.run 1 tt_ok rfl rfl rfl rfl trivial ?_
      refine WH.nil rfl ?_
      refine QT.n ?_
      refine WC.freezeT 125 enc_api_Frame (([] : List T_api_Frame) ++ a1) rfl rfl rfl rfl ?_
      refine WC.ret ?_
      refine QT.r (QT.r ?_)
      cases H
      exact Ends.autoC tt_ok rfl rfl rfl trivial
    replace H := of_f H h7
    refine WC.skip ?_
    refine QT.n ?_
    refine WC.seq ?_
    refine WC.seq ?_
    refine WC.region ?_
    refine WL.run 3 tt_ok sg0 rfl rfl trivial ?_
    refine WL.nil ?_
    refine QT.n ?_
    refine WC.cond rfl (fun h8 => ?_) (fun h8 => ?_)
    · replace H := of_t H h8
      refine WC.seq ?_
      refine WC.region ?_
      refine WL.run 1 tt_ok sg0 rfl rfl trivial ?_
      refine WL.yv (LJ.Y.buildArr 5 [.int .i64 0, .int .i64 0, .int .i64 0, .int .i64 0, .int .i64 0] [.int .i64 x6.2.1, .int .i64 0, .int .i64 0, .int .i64 0, .int .i64 0] (by kernel_rfl) (by kernel_rfl) rfl rfl rfl) rfl rfl rfl ?_
      refine WL.run 2 tt_ok sg0 rfl rfl trivial ?_
      refine WL.eff 0 tt_ok et_ok eg0 rfl rfl rfl trivial ?_
      refine WL.run 1 tt_ok sg0 rfl rfl trivial ?_
      refine WL.nil ?_
      refine QT.n ?_
      refine WC.nilT 8 enc_api_Frame rfl ?_
      refine WC.ret ?_
      refine QT.r (QT.r ?_)
      cases H
      exact Ends.autoC tt_ok rfl rfl rfl trivial
    replace H := of_f H h8
    refine WC.skip ?_
    refine QT.n ?_
    refine WC.seq ?_
    refine WC.heldP (.one 0 true (.one 1 true (.one 2 true (.one 3 false (.one 4 true .done))))) [104, 109, 111, 113] [104, 111, 113] rfl (by kernel_rfl) rfl (by kernel_rfl) rfl rfl (fun _ h => h) rfl rfl rfl (fun _ _ _ h => h) fun FK NK wK K => ?_
    refine WH.run 3 tt_ok rfl rfl rfl rfl trivial ?_
    refine WH.eff 0 tt_ok et_ok rfl rfl rfl rfl trivial rfl rfl ?_
    refine WH.run 1 tt_ok rfl rfl rfl rfl trivial ?_
    refine WH.nil rfl ?_
    refine QT.n ?_
    refine WC.ret ?_
    refine QT.r ?_
    cases H
    exact Ends.autoC tt_ok rfl rfl rfl trivial
  replace H := of_f H h5
  refine WC.skip ?_
  refine QT.n ?_
  refine WC.seq ?_
  obtain ⟨x15_3_1, hx15_3_1, H⟩ := of_bind H
  obtain ⟨x15_5_1, hx15_5_1, H⟩ := of_bind H
  obtain ⟨x15_6_1, hx15_6_1, H⟩ := of_bind H
  refine WC.heldF [(2, .d (.int .i64 a2)), (3, .d (.int .i64 a3)), (9, .ptr 109 0), (11, .ptr 111 0), (12, .own 125), (13, .ptr 113 0), (15, .d (.bool x15_6_1.2.2)), (19, .own 2820), (20, .d (slT enc_i64 x15_6_1.2.1))] [(109, .box 36 [.d (.int .i64 0), .d (.int .i64 0), .d (.int .i64 0), .d (.int .i64 0), .d (.int .i64 0), .d (.int .i64 0), .d (.int .i64 0), .d (.int .i64 0)]), (111, .box 36 [.d (.int .i64 (-1)), .d (.int .i64 0), .d (.int .i64 0), .d (.int .i64 0), .d (.int .i64 0), .d (.int .i64 0), .d (.int .i64 0), .d (.int .i64 0)]), (113, .box 55 [.d (.int .i64 x2.1.Op), .d (.int .i64 x2.1.A), .d (.int .i64 x2.1.B)]), (125, .row 45 27 ((([] : List T_api_Frame) ++ a1).map enc_api_Frame)), (2820, .row 45 27 (x15_6_1.1.map enc_api_Frame))] (.one 0 true (.one 1 true (.one 2 true (.one 4 true (.one 3 false (.one 5 false (.one 6 false (.one 7 true (.fork (.one 8 false (.one 11 true (.fork (.one 9 false (.one 12 true (.one 10 false (.one 13 true .done)))) (.one 10 false (.one 9 false (.one 12 true (.one 13 true .done))))))) (.fork (.one 9 false (.fork (.one 8 false (.one 11 true (.one 12 true (.one 10 false (.one 13 true .done))))) (.one 10 false (.one 8 false (.one 11 true (.one 12 true (.one 13 true .done))))))) (.one 10 false (.fork (.one 8 false (.one 11 true (.one 9 false (.one 12 true (.one 13 true .done))))) (.one 9 false (.one 8 false (.one 11 true (.one 12 true (.one 13 true .done))))))))))))))))) [104, 109, 111, 113] [104, 109, 111, 113] rfl (by kernel_rfl) rfl (by kernel_rfl) rfl rfl (fun _ h => h) rfl rfl rfl (fun FK NK wK K => ?_) ?_
  · refine WH.run 4 tt_ok rfl rfl rfl rfl trivial ?_
    refine WH.call [] rfl (frame_Go_0 _ _ hx15_3_1) frame_Go_f rfl rfl trivial rfl rfl rfl rfl rfl ?_
    refine WH.call [] rfl (op_Pops_0 _ _ hx15_5_1) op_Pops_f rfl rfl trivial rfl rfl rfl rfl rfl ?_
    refine WH.call [2820] rfl (frame_Pop_s 2820 rfl _ _ hx15_6_1) frame_Pop_f rfl rfl trivial rfl rfl rfl rfl rfl ?_
    refine WH.mv rfl rfl rfl rfl rfl rfl rfl rfl rfl ?_
    refine WH.fork ?_ (WH.fork ?_ ?_)
    · refine WH.val tt_ok rfl rfl rfl rfl rfl trivial rfl rfl ?_
      refine WH.mv rfl rfl rfl rfl rfl rfl rfl rfl rfl ?_
      refine WH.fork ?_ ?_
      · refine WH.val tt_ok rfl rfl rfl rfl rfl trivial rfl rfl ?_
        refine WH.mv rfl rfl rfl rfl rfl rfl rfl rfl rfl ?_
        refine WH.val tt_ok rfl rfl rfl rfl rfl trivial rfl rfl ?_
        refine WH.run 1 tt_ok rfl rfl rfl rfl trivial ?_
        exact WH.nilF rfl (LessW.mk' ⟨AVle.of rfl, AVle.of rfl, AVle.of rfl, AVle.of rfl, AVle.of rfl, AVle.of rfl, AVle.of rfl, AVle.of rfl, AVle.of rfl, trivial⟩ ⟨rfl, rfl, rfl, rfl, rfl, trivial⟩)
      · refine WH.val tt_ok rfl rfl rfl rfl rfl trivial rfl rfl ?_
        refine WH.val tt_ok rfl rfl rfl rfl rfl trivial rfl rfl ?_
        refine WH.mv rfl rfl rfl rfl rfl rfl rfl rfl rfl ?_
        refine WH.run 1 tt_ok rfl rfl rfl rfl trivial ?_
        exact WH.nilF rfl (LessW.mk' ⟨AVle.of rfl, AVle.of rfl, AVle.of rfl, AVle.of rfl, AVle.of rfl, AVle.of rfl, AVle.of rfl, AVle.of rfl, AVle.of rfl, trivial⟩ ⟨rfl, rfl, rfl, rfl, rfl, trivial⟩)
    · refine WH.val tt_ok rfl rfl rfl rfl rfl trivial rfl rfl ?_
      refine WH.fork ?_ ?_
      · refine WH.val tt_ok rfl rfl rfl rfl rfl trivial rfl rfl ?_
        refine WH.mv rfl rfl rfl rfl rfl rfl rfl rfl rfl ?_
        refine WH.mv rfl rfl rfl rfl rfl rfl rfl rfl rfl ?_
        refine WH.val tt_ok rfl rfl rfl rfl rfl trivial rfl rfl ?_
        refine WH.run 1 tt_ok rfl rfl rfl rfl trivial ?_
        exact WH.nilF rfl (LessW.mk' ⟨AVle.of rfl, AVle.of rfl, AVle.of rfl, AVle.of rfl, AVle.of rfl, AVle.of rfl, AVle.of rfl, AVle.of rfl, AVle.of rfl, trivial⟩ ⟨rfl, rfl, rfl, rfl, rfl, trivial⟩)
      · refine WH.val tt_ok rfl rfl rfl rfl rfl trivial rfl rfl ?_
        refine WH.val tt_ok rfl rfl rfl rfl rfl trivial rfl rfl ?_
        refine WH.mv rfl rfl rfl rfl rfl rfl rfl rfl rfl ?_
        refine WH.mv rfl rfl rfl rfl rfl rfl rfl rfl rfl ?_
        refine WH.run 1 tt_ok rfl rfl rfl rfl trivial ?_
        exact WH.nilF rfl (LessW.mk' ⟨AVle.of rfl, AVle.of rfl, AVle.of rfl, AVle.of rfl, AVle.of rfl, AVle.of rfl, AVle.of rfl, AVle.of rfl, AVle.of rfl, trivial⟩ ⟨rfl, rfl, rfl, rfl, rfl, trivial⟩)
    · refine WH.val tt_ok rfl rfl rfl rfl rfl trivial rfl rfl ?_
      refine WH.fork ?_ ?_
      · refine WH.val tt_ok rfl rfl rfl rfl rfl trivial rfl rfl ?_
        refine WH.mv rfl rfl rfl rfl rfl rfl rfl rfl rfl ?_
        refine WH.val tt_ok rfl rfl rfl rfl rfl trivial rfl rfl ?_
        refine WH.mv rfl rfl rfl rfl rfl rfl rfl rfl rfl ?_
        refine WH.run 1 tt_ok rfl rfl rfl rfl trivial ?_
        exact WH.nilF rfl (LessW.mk' ⟨AVle.of rfl, AVle.of rfl, AVle.of rfl, AVle.of rfl, AVle.of rfl, AVle.of rfl, AVle.of rfl, AVle.of rfl, AVle.of rfl, trivial⟩ ⟨rfl, rfl, rfl, rfl, rfl, trivial⟩)
      · refine WH.val tt_ok rfl rfl rfl rfl rfl trivial rfl rfl ?_
        refine WH.val tt_ok rfl rfl rfl rfl rfl trivial rfl rfl ?_
        refine WH.mv rfl rfl rfl rfl rfl rfl rfl rfl rfl ?_
        refine WH.mv rfl rfl rfl rfl rfl rfl rfl rfl rfl ?_
        refine WH.run 1 tt_ok rfl rfl rfl rfl trivial ?_
        exact WH.nilF rfl (LessW.mk' ⟨AVle.of rfl, AVle.of rfl, AVle.of rfl, AVle.of rfl, AVle.of rfl, AVle.of rfl, AVle.of rfl, AVle.of rfl, AVle.of rfl, trivial⟩ ⟨rfl, rfl, rfl, rfl, rfl, trivial⟩)
  · refine QT.n ?_
    refine WC.seq ?_
    refine WC.seq ?_
    refine WC.region ?_
    refine WL.run 2 tt_ok sg0 rfl rfl trivial ?_
    refine WL.nil ?_
    refine QT.n ?_
    refine WC.cond rfl (fun h9 => ?_) (fun h9 => ?_)
    · replace H := of_t H h9
      refine WC.seq ?_
      refine WC.heldP (.one 0 true (.one 1 true (.one 2 true (.one 3 false (.one 4 true .done))))) [109, 111, 113] [111, 113] rfl (by kernel_rfl) rfl (by kernel_rfl) rfl rfl (fun _ h => h) rfl rfl rfl (fun _ _ _ h => h) fun FK NK wK K => ?_
      refine WH.mv rfl rfl rfl rfl rfl rfl rfl rfl rfl ?_
      refine WH.run 1 tt_ok rfl rfl rfl rfl trivial ?_
      refine WH.mv rfl rfl rfl rfl rfl rfl rfl rfl rfl ?_
      refine WH.eff 0 tt_ok et_ok rfl rfl rfl rfl trivial rfl rfl ?_
      refine WH.run 1 tt_ok rfl rfl rfl rfl trivial ?_
      refine WH.nil rfl ?_
      refine QT.n ?_
      refine WC.freezeT 125 enc_api_Frame (([] : List T_api_Frame) ++ a1) rfl rfl rfl rfl ?_
      refine WC.ret ?_
      refine QT.r ?_
      cases H
      exact Ends.autoC tt_ok rfl rfl rfl trivial
    replace H := of_f H h9
    refine WC.skip ?_
    refine QT.n ?_
    refine WC.seq ?_
    refine WC.seq ?_
    refine WC.region ?_
    refine WL.run 2 tt_ok sg0 rfl rfl trivial ?_
    obtain ⟨x10, hx10, H⟩ := of_bind H
    refine WL.call [] (exec_Pure_0 _ hx10) exec_Pure_f rfl rfl trivial rfl rfl rfl ?_
    refine WL.run 1 tt_ok sg0 rfl rfl trivial ?_
    refine WL.nil ?_
    refine QT.n ?_
    refine WC.cond rfl (fun h11 => ?_) (fun h11 => ?_)
    · replace H := of_t H h11
      refine WC.seq ?_
      refine WC.region ?_
      refine WL.run 7 tt_ok sg0 rfl rfl trivial ?_
      refine WL.alloc 121 tt_ok rfl rfl rfl ?_
      refine WL.eff 0 tt_ok et_ok eg0 rfl rfl rfl trivial ?_
      refine WL.nil ?_
      refine QT.n ?_
      refine WC.seq ?_
      refine WC.region ?_
      refine WL.run 1 tt_ok sg0 rfl rfl trivial ?_
      obtain ⟨g12, H⟩ := of_need H
      refine WL.yv (LJ.Y.slicePsl 5 (0 : Int) ((5 : Nat) : Int) (by kernel_rfl) rfl rfl rfl rfl (nSl_ok g12)) rfl rfl rfl ?_
      refine WL.run 1 tt_ok sg0 rfl rfl trivial ?_
      refine WL.wo (WO.cpyPsl enc_i64 5 3 ([0, 0, 0, 0, 0] : List Int) x15_6_1.2.1 (0 : Int) ((5 : Nat) : Int) (cs' := [.d (.int .i64 x2.1.Op), .d (.int .i64 x2.1.A), .d (.int .i64 x2.1.B), .d (.int .i64 ((acopy 5 ([0, 0, 0, 0, 0] : List Int) (0 : Int) ((5 : Nat) : Int) x15_6_1.2.1).getD 0 default)), .d (.int .i64 ((acopy 5 ([0, 0, 0, 0, 0] : List Int) (0 : Int) ((5 : Nat) : Int) x15_6_1.2.1).getD 1 default)), .d (.int .i64 ((acopy 5 ([0, 0, 0, 0, 0] : List Int) (0 : Int) ((5 : Nat) : Int) x15_6_1.2.1).getD 2 default)), .d (.int .i64 ((acopy 5 ([0, 0, 0, 0, 0] : List Int) (0 : Int) ((5 : Nat) : Int) x15_6_1.2.1).getD 3 default)), .d (.int .i64 ((acopy 5 ([0, 0, 0, 0, 0] : List Int) (0 : Int) ((5 : Nat) : Int) x15_6_1.2.1).getD 4 default))]) tt_ok rfl rfl rfl rfl rfl rfl rfl rfl rfl (nSl_ok g12) rfl rfl rfl rfl) rfl ?_
      refine WL.nil ?_
      refine QT.n ?_
      refine WC.seq ?_
      refine WC.heldP (.one 0 true (.one 1 true (.one 2 true (.one 3 false (.one 4 true .done))))) [109, 111, 113, 121] [111, 113, 121] rfl (by kernel_rfl) rfl (by kernel_rfl) rfl rfl (fun _ h => h) rfl rfl rfl (fun _ _ _ h => h) fun FK NK wK K => ?_
      refine WH.mv rfl rfl rfl rfl rfl rfl rfl rfl rfl ?_
      refine WH.run 1 tt_ok rfl rfl rfl rfl trivial ?_
      refine WH.mv rfl rfl rfl rfl rfl rfl rfl rfl rfl ?_
      refine WH.eff 0 tt_ok et_ok rfl rfl rfl rfl trivial rfl rfl ?_
      refine WH.run 1 tt_ok rfl rfl rfl rfl trivial ?_
      refine WH.nil rfl ?_
      refine QT.n ?_
      refine WC.freezeT 2820 enc_api_Frame x15_6_1.1 rfl rfl rfl rfl ?_
      refine WC.ret ?_
      refine QT.r ?_
      cases H
      exact Ends.autoC tt_ok rfl rfl rfl trivial
    replace H := of_f H h11
    refine WC.skip ?_
    refine QT.n ?_
    refine WC.seq ?_
    refine WC.region ?_
    refine WL.run 5 tt_ok sg0 rfl rfl trivial ?_
    refine WL.freezeT 2820 enc_api_Frame x15_6_1.1 rfl rfl rfl rfl ?_
    obtain ⟨x13, hx13, H⟩ := of_bind H
    refine WL.call [] (exec_pure_0 _ _ _ _ _ hx13) exec_pure_f rfl rfl trivial rfl rfl rfl ?_
    refine WL.run 7 tt_ok sg0 rfl rfl trivial ?_
    refine WL.nil ?_
    refine QT.n ?_
    refine WC.seq ?_
    refine WC.seq ?_
    refine WC.region ?_
    refine WL.run 3 tt_ok sg0 rfl rfl trivial ?_
    refine WL.sect 2 2 false tt_ok sg0 rfl rfl (fun _ => trivial) ?_
    refine WL.run 1 tt_ok sg0 rfl rfl ⟨by first | exact id | exact fun h => by rw [h]; rfl | simp_all, trivial⟩ ?_
    refine WL.nil ?_
    refine QT.n ?_
    refine WC.cond rfl (fun h14 => ?_) (fun h14 => ?_)
    · replace H := of_t H h14
      refine WC.seq ?_
      refine WC.heldP (.one 0 true (.one 1 true (.one 2 true (.one 3 true (.one 4 false (.one 5 true .done)))))) [109, 111, 113] [111, 113] rfl (by kernel_rfl) rfl (by kernel_rfl) rfl rfl (fun _ h => h) rfl rfl rfl (fun _ _ _ h => h) fun FK NK wK K => ?_
      refine WH.mv rfl rfl rfl rfl rfl rfl rfl rfl rfl ?_
      refine WH.run 2 tt_ok rfl rfl rfl rfl trivial ?_
      refine WH.mv rfl rfl rfl rfl rfl rfl rfl rfl rfl ?_
      refine WH.eff 0 tt_ok et_ok rfl rfl rfl rfl trivial rfl rfl ?_
      refine WH.run 1 tt_ok rfl rfl rfl rfl trivial ?_
      refine WH.nil rfl ?_
      refine QT.n ?_
      refine WC.freezeT 125 enc_api_Frame (([] : List T_api_Frame) ++ a1) rfl rfl rfl rfl ?_
      refine WC.ret ?_
      refine QT.r ?_
      cases H
      exact Ends.autoC tt_ok rfl rfl rfl trivial
    replace H := of_f H h14
    refine WC.skip ?_
    refine QT.n ?_
    refine WC.seq ?_
    refine WC.heldP (.one 0 true (.one 1 true (.one 2 true (.one 3 false (.one 4 true .done))))) [109, 111, 113] [111, 113] rfl (by kernel_rfl) rfl (by kernel_rfl) rfl rfl (fun _ h => h) rfl rfl rfl (fun _ _ _ h => h) fun FK NK wK K => ?_
    refine WH.run 3 tt_ok rfl rfl rfl rfl trivial ?_
    refine WH.eff 0 tt_ok et_ok rfl rfl rfl rfl trivial rfl rfl ?_
    refine WH.run 1 tt_ok rfl rfl rfl rfl trivial ?_
    refine WH.nil rfl ?_
    refine QT.n ?_
    refine WC.ret ?_
    cases H
    exact Ends.autoC tt_ok rfl rfl rfl trivial
theorem exec_Do_f : hasFunc Try.prog 9 Try.f9 := ⟨Try.func9, rfl, by kernel_rfl⟩

/-! ### logjam/logjamlaw15.lives -/
theorem law15_lives_0  {r : Bool} (H : law15_lives = some r) : LJ.Spec Try.prog 8 [] [] (.d (.bool r)) [] := by
  refine LJ.Spec.code Try.func8 rfl 93 rfl rfl [] rfl fun w0 F0 S0 B0 => ?_
  unfold law15_lives at H
  refine WC.seq ?_
  refine WC.region ?_
  refine WL.run 1 tt_ok sg0 rfl rfl trivial ?_
  refine WL.nil ?_
  refine QT.n ?_
  refine WC.seq ?_
  refine WC.region ?_
  refine WL.run 3 tt_ok sg0 rfl rfl trivial ?_
  refine WL.eff 111 tt_ok et_ok eg0 rfl rfl rfl trivial ?_
  refine WL.freezeT 111 enc_api_Ins ([(⟨0, 7, 0⟩ : T_api_Ins), (⟨24, 0, 0⟩ : T_api_Ins), (⟨21, 0, 0⟩ : T_api_Ins)] : List T_api_Ins) rfl rfl rfl rfl ?_
  refine WL.run 1 tt_ok sg0 rfl rfl trivial ?_
  refine WL.eff 113 tt_ok et_ok eg0 rfl rfl rfl trivial ?_
  refine WL.freezeT 113 enc_api_Func ([(⟨0, 0, ([(⟨0, 7, 0⟩ : T_api_Ins), (⟨24, 0, 0⟩ : T_api_Ins), (⟨21, 0, 0⟩ : T_api_Ins)] : List T_api_Ins)⟩ : T_api_Func)] : List T_api_Func) rfl rfl rfl rfl ?_
  refine WL.run 1 tt_ok sg0 rfl rfl trivial ?_
  refine WL.alloc 101 tt_ok rfl rfl rfl ?_
  refine WL.eff 0 tt_ok et_ok eg0 rfl rfl rfl trivial ?_
  refine WL.nil ?_
  refine QT.n ?_
  refine WC.seq ?_
  refine WC.region ?_
  refine WL.run 1 tt_ok sg0 rfl rfl trivial ?_
  refine WL.le 16 (.agg [slT enc_api_Decl [], slT enc_sl_sl_api_Need [], slT enc_api_Func ([(⟨0, 0, ([(⟨0, 7, 0⟩ : T_api_Ins), (⟨24, 0, 0⟩ : T_api_Ins), (⟨21, 0, 0⟩ : T_api_Ins)] : List T_api_Ins)⟩ : T_api_Func)] : List T_api_Func)]) rfl (Le.agg (.cons (Le.nilT enc_api_Decl) (.cons (Le.nilT enc_sl_sl_api_Need) (.cons .rfl' .nil)))) ?_
  refine WL.run 1 tt_ok sg0 rfl rfl trivial ?_
  refine WL.eff 118 tt_ok et_ok eg0 rfl rfl rfl trivial ?_
  refine WL.freezeT 118 enc_api_Frame ([(⟨0, 0, 0, ([0, 0, 0, 0, 0, 0, 0, 0] : List Int), ([0, 0, 0, 0, 0, 0, 0, 0, 0, 0, 0, 0, 0, 0, 0, 0] : List Int)⟩ : T_api_Frame)] : List T_api_Frame) rfl rfl rfl rfl ?_
  obtain ⟨x1, hx1, H⟩ := of_bind H
  refine WL.call [] (exec_Do_0 _ _ _ _ hx1) exec_Do_f rfl rfl trivial rfl rfl rfl ?_
  refine WL.run 4 tt_ok sg0 rfl rfl trivial ?_
  refine WL.alloc 103 tt_ok rfl rfl rfl ?_
  refine WL.run 1 tt_ok sg0 rfl rfl trivial ?_
  refine WL.eff 0 tt_ok et_ok eg0 rfl rfl rfl trivial ?_
  refine WL.run 1 tt_ok sg0 rfl rfl trivial ?_
  refine WL.nil ?_
  refine QT.n ?_
  refine WC.seq ?_
  refine WC.region ?_
  refine WL.run 1 tt_ok sg0 rfl rfl trivial ?_
  refine WL.le 24 (.agg [slT enc_api_Decl [], slT enc_sl_sl_api_Need [], slT enc_api_Func ([(⟨0, 0, ([(⟨0, 7, 0⟩ : T_api_Ins), (⟨24, 0, 0⟩ : T_api_Ins), (⟨21, 0, 0⟩ : T_api_Ins)] : List T_api_Ins)⟩ : T_api_Func)] : List T_api_Func)]) rfl (Le.agg (.cons (Le.nilT enc_api_Decl) (.cons (Le.nilT enc_sl_sl_api_Need) (.cons .rfl' .nil)))) ?_
  refine WL.run 1 tt_ok sg0 rfl rfl trivial ?_
  obtain ⟨x2, hx2, H⟩ := of_bind H
  refine WL.call [] (exec_Do_0 _ _ _ _ hx2) exec_Do_f rfl rfl trivial rfl rfl rfl ?_
  refine WL.run 4 tt_ok sg0 rfl rfl trivial ?_
  refine WL.alloc 106 tt_ok rfl rfl rfl ?_
  refine WL.run 1 tt_ok sg0 rfl rfl trivial ?_
  refine WL.eff 0 tt_ok et_ok eg0 rfl rfl rfl trivial ?_
  refine WL.run 1 tt_ok sg0 rfl rfl trivial ?_
  refine WL.nil ?_
  refine QT.n ?_
  refine WC.seq ?_
  refine WC.region ?_
  refine WL.run 4 tt_ok sg0 rfl rfl trivial ?_
  obtain ⟨g3, H⟩ := of_needS H
  refine WL.sect 5 3 true tt_ok sg0 rfl rfl (fun hb => ⟨⟨(nIn_ok (g3 hb)).1, (nIn_ok (g3 hb)).2, rfl⟩, trivial⟩) ?_
  refine WL.run 2 tt_ok sg0 rfl rfl ⟨by first | exact id | exact fun h => by rw [h]; rfl | simp_all, trivial⟩ ?_
  refine WL.split (g := 40) rfl (fun h4 => ?_) (fun h4 => ?_)
  · replace H := of_t H h4
    obtain ⟨g5, H⟩ := of_need H
    refine WL.grun 3 10 true 40 tt_ok sg0 rfl rfl rfl rfl ⟨⟨(nIn_ok g5).1, (nIn_ok g5).2, rfl⟩, trivial⟩ ?_
    obtain ⟨g6, H⟩ := of_need H
    refine WL.gyv (LJ.Y.idxElpA 16 (fun k => .int .i64 (((x1.1.getD (0 : Int).toNat default).S).getD k default)) (0 : Int) (by kernel_rfl) rfl rfl rfl rfl (nIn_ok g6)) rfl rfl rfl rfl rfl rfl ?_
    refine WL.grun 2 10 true 40 tt_ok sg0 rfl rfl rfl rfl trivial ?_
    refine WL.pickT rfl rfl rfl rfl rfl rfl ?_
    refine WL.run 1 tt_ok sg0 rfl rfl trivial ?_
    obtain ⟨g7, H⟩ := of_needS H
    refine WL.sect 5 18 true tt_ok sg0 rfl rfl (fun hb => ⟨⟨(nIn_ok (g7 hb)).1, (nIn_ok (g7 hb)).2, rfl⟩, trivial⟩) ?_
    refine WL.run 2 tt_ok sg0 rfl rfl ⟨by first | exact id | exact fun h => by rw [h]; rfl | simp_all, trivial⟩ ?_
    refine WL.sect 3 25 true tt_ok sg0 rfl rfl (fun _ => trivial) ?_
    refine WL.run 2 tt_ok sg0 rfl rfl ⟨by first | exact id | exact fun h => by rw [h]; rfl | simp_all, trivial⟩ ?_
    refine WL.sect 2 30 true tt_ok sg0 rfl rfl (fun _ => trivial) ?_
    refine WL.run 2 tt_ok sg0 rfl rfl ⟨by first | exact id | exact fun h => by rw [h]; rfl | simp_all, trivial⟩ ?_
    refine WL.sect 3 34 true tt_ok sg0 rfl rfl (fun _ => trivial) ?_
    refine WL.run 2 tt_ok sg0 rfl rfl ⟨by first | exact id | exact fun h => by rw [h]; rfl | simp_all, trivial⟩ ?_
    obtain ⟨g8, H⟩ := of_needS H
    refine WL.sect 5 39 true tt_ok sg0 rfl rfl (fun hb => ⟨⟨(nIn_ok (g8 hb)).1, (nIn_ok (g8 hb)).2, rfl⟩, trivial⟩) ?_
    refine WL.run 2 tt_ok sg0 rfl rfl ⟨by first | exact id | exact fun h => by rw [h]; rfl | simp_all, trivial⟩ ?_
    refine WL.split (g := 76) rfl (fun h9 => ?_) (fun h9 => ?_)
    · replace H := of_t H h9
      refine WL.grun 1 46 true 76 tt_ok sg0 rfl rfl rfl rfl trivial ?_
      refine WL.gyv (LJ.Y.buildArr 5 [.int .i64 0, .int .i64 0, .int .i64 0, .int .i64 0, .int .i64 0] [.int .i64 7, .int .i64 0, .int .i64 0, .int .i64 0, .int .i64 0] (by kernel_rfl) (by kernel_rfl) rfl rfl rfl) rfl rfl rfl rfl rfl rfl ?_
      refine WL.grun 1 46 true 76 tt_ok sg0 rfl rfl rfl rfl trivial ?_
      refine WL.gyv (LJ.Y.structEqA .eql 8 (.inl rfl) rfl rfl rfl (by kernel_rfl) rfl rfl rfl) rfl rfl rfl rfl rfl rfl ?_
      refine WL.pickT rfl rfl rfl rfl rfl rfl ?_
      refine WL.run 1 tt_ok sg0 rfl rfl trivial ?_
      refine WL.sect 2 52 true tt_ok sg0 rfl rfl (fun _ => trivial) ?_
      refine WL.run 2 tt_ok sg0 rfl rfl ⟨by first | exact id | exact fun h => by rw [h]; rfl | simp_all, trivial⟩ ?_
      obtain ⟨x10, hx10, H⟩ := of_bind H
      refine WL.sect 1 56 true tt_ok [PSig.at' exec_Pure_f ((((iEq x2.2.1.Op 24) && ((iEq x2.2.1.A 0) && ((iEq x2.2.1.B 0) && ((iEq (x2.2.1.X.getD 0 default) 7) && ((iEq (x2.2.1.X.getD 1 default) 0) && ((iEq (x2.2.1.X.getD 2 default) 0) && ((iEq (x2.2.1.X.getD 3 default) 0) && ((iEq (x2.2.1.X.getD 4 default) 0) && true)))))))) && (iEq x2.2.2 0)) = true) rfl (fun hb => exec_Pure_0 _ (of_t hx10 hb))] rfl rfl (fun hb => ⟨⟨hb, rfl⟩, trivial⟩) ?_
      refine WL.run 2 tt_ok sg0 rfl rfl ⟨by first | exact id | exact fun h => by rw [h]; rfl | simp_all, trivial⟩ ?_
      obtain ⟨x11, hx11, H⟩ := of_bind H
      refine WL.sect 2 59 true tt_ok [PSig.at' exec_Pure_f (((((iEq x2.2.1.Op 24) && ((iEq x2.2.1.A 0) && ((iEq x2.2.1.B 0) && ((iEq (x2.2.1.X.getD 0 default) 7) && ((iEq (x2.2.1.X.getD 1 default) 0) && ((iEq (x2.2.1.X.getD 2 default) 0) && ((iEq (x2.2.1.X.getD 3 default) 0) && ((iEq (x2.2.1.X.getD 4 default) 0) && true)))))))) && (iEq x2.2.2 0)) && x10) = true) rfl (fun hb => exec_Pure_0 _ (of_t hx11 hb))] rfl rfl (fun hb => ⟨⟨hb, rfl⟩, trivial⟩) ?_
      refine WL.run 2 tt_ok sg0 rfl rfl ⟨by first | exact id | exact fun h => by rw [h]; rfl | simp_all, trivial⟩ ?_
      refine WL.nil ?_
      refine QT.n ?_
      refine WC.ret ?_
      cases H
      exact Ends.auto rfl rfl rfl trivial
    · replace H := of_f H h9
      refine WL.gskips 4 46 true 76 rfl rfl rfl rfl ?_
      refine WL.pickF rfl rfl rfl rfl rfl rfl ?_
      refine WL.run 1 tt_ok sg0 rfl rfl trivial ?_
      refine WL.gskips 2 52 true 82 rfl rfl rfl rfl ?_
      refine WL.pickF rfl rfl rfl rfl rfl rfl ?_
      refine WL.run 1 tt_ok sg0 rfl rfl trivial ?_
      refine WL.gskips 1 56 true 86 rfl rfl rfl rfl ?_
      refine WL.pickF rfl rfl rfl rfl rfl rfl ?_
      refine WL.run 1 tt_ok sg0 rfl rfl trivial ?_
      refine WL.gskips 2 59 true 89 rfl rfl rfl rfl ?_
      refine WL.pickF rfl rfl rfl rfl rfl rfl ?_
      refine WL.run 1 tt_ok sg0 rfl rfl trivial ?_
      refine WL.nil ?_
      refine QT.n ?_
      refine WC.ret ?_
      cases H
      exact Ends.auto rfl rfl rfl trivial
  · replace H := of_f H h4
    refine WL.gskips 6 10 true 40 rfl rfl rfl rfl ?_
    refine WL.pickF rfl rfl rfl rfl rfl rfl ?_
    refine WL.run 1 tt_ok sg0 rfl rfl trivial ?_
    refine WL.gskips 5 18 true 48 rfl rfl rfl rfl ?_
    refine WL.pickF rfl rfl rfl rfl rfl rfl ?_
    refine WL.run 1 tt_ok sg0 rfl rfl trivial ?_
    refine WL.gskips 3 25 true 55 rfl rfl rfl rfl ?_
    refine WL.pickF rfl rfl rfl rfl rfl rfl ?_
    refine WL.run 1 tt_ok sg0 rfl rfl trivial ?_
    refine WL.gskips 2 30 true 60 rfl rfl rfl rfl ?_
    refine WL.pickF rfl rfl rfl rfl rfl rfl ?_
    refine WL.run 1 tt_ok sg0 rfl rfl trivial ?_
    refine WL.gskips 3 34 true 64 rfl rfl rfl rfl ?_
    refine WL.pickF rfl rfl rfl rfl rfl rfl ?_
    refine WL.run 1 tt_ok sg0 rfl rfl trivial ?_
    refine WL.gskips 5 39 true 69 rfl rfl rfl rfl ?_
    refine WL.pickF rfl rfl rfl rfl rfl rfl ?_
    refine WL.run 1 tt_ok sg0 rfl rfl trivial ?_
    refine WL.gskips 4 46 true 76 rfl rfl rfl rfl ?_
    refine WL.pickF rfl rfl rfl rfl rfl rfl ?_
    refine WL.run 1 tt_ok sg0 rfl rfl trivial ?_
    refine WL.gskips 2 52 true 82 rfl rfl rfl rfl ?_
    refine WL.pickF rfl rfl rfl rfl rfl rfl ?_
    refine WL.run 1 tt_ok sg0 rfl rfl trivial ?_
    refine WL.gskips 1 56 true 86 rfl rfl rfl rfl ?_
    refine WL.pickF rfl rfl rfl rfl rfl rfl ?_
    refine WL.run 1 tt_ok sg0 rfl rfl trivial ?_
    refine WL.gskips 2 59 true 89 rfl rfl rfl rfl ?_
    refine WL.pickF rfl rfl rfl rfl rfl rfl ?_
    refine WL.run 1 tt_ok sg0 rfl rfl trivial ?_
    refine WL.nil ?_
    refine QT.n ?_
    refine WC.ret ?_
    cases H
    exact Ends.auto rfl rfl rfl trivial
theorem law15_lives_f : hasFunc Try.prog 8 Try.f8 := ⟨Try.func8, rfl, by kernel_rfl⟩

/-! ### logjam/logjamlaw09.Own -/
theorem law09_Own_0 (a0 : List (List T_api_Need)) {r : List (List T_api_Need)} (H : law09_Own a0 = some r) : LJ.Spec Try.prog 25 [.d (slT enc_sl_api_Need a0)] [] (.d (slT enc_sl_api_Need r)) [] := by
  refine LJ.Spec.code Try.func25 rfl 33 rfl rfl [] rfl fun w0 F0 S0 B0 => ?_
  unfold law09_Own at H
  refine WC.seq ?_
  refine WC.region ?_
  refine WL.run 1 tt_ok sg0 rfl rfl trivial ?_
  refine WL.nil ?_
  refine QT.n ?_
  refine WC.seq ?_
  refine WC.region ?_
  refine WL.eff 106 tt_ok et_ok eg0 rfl rfl rfl trivial ?_
  refine WL.run 1 tt_ok sg0 rfl rfl trivial ?_
  refine WL.nil ?_
  refine QT.n ?_
  refine WC.seq ?_
  refine WC.seq ?_
  refine WC.region ?_
  refine WL.run 1 tt_ok sg0 rfl rfl trivial ?_
  refine WL.nil ?_
  refine QT.n ?_
  refine WC.block ?_
  refine WC.loop (ι := {x : Nat × (Int × (List (List T_api_Need))) // law09_Own_l2 a0 x.1 x.2 = some r}) (fun x => [(0, .d (slT enc_sl_api_Need a0)), (3, .own 106), (4, .d (.int .i64 x.1.2.1))]) (fun x => [(106, .row 92 1 (x.1.2.2.map enc_sl_api_Need))]) (fun x => x.1.1) ⟨(fuel, (0, ([] : List (List T_api_Need)))), H⟩ (Less.mk' ⟨rfl, rfl, rfl, trivial⟩ ⟨rfl, trivial⟩) fun x => ?_
  obtain ⟨⟨k2, s1⟩, H⟩ := x
  rcases k2 with _ | k2
  · exact of_none H
  rw [law09_Own_l2] at H
  refine WC.seq ?_
  refine WC.seq ?_
  refine WC.region ?_
  refine WL.run 5 tt_ok sg0 rfl rfl trivial ?_
  refine WL.sect 2 4 true tt_ok sg0 rfl rfl (fun _ => trivial) ?_
  refine WL.run 1 tt_ok sg0 rfl rfl ⟨by first | exact id | exact fun h => by rw [h]; rfl | simp_all, trivial⟩ ?_
  refine WL.nil ?_
  refine QT.n ?_
  refine WC.cond rfl (fun h3 => ?_) (fun h3 => ?_)
  · replace H := of_t H h3
    refine WC.skip ?_
    refine QT.n ?_
    refine WC.seq ?_
    refine WC.block ?_
    refine WC.seq ?_
    refine WC.region ?_
    obtain ⟨g4, H⟩ := of_need H
    refine WL.run 5 tt_ok sg0 rfl rfl ⟨⟨(nIn_ok g4).1, (nIn_ok g4).2, rfl⟩, trivial⟩ ?_
    refine WL.nil ?_
    refine QT.n ?_
    refine WC.seq ?_
    refine WC.seq ?_
    refine WC.region ?_
    refine WL.run 3 tt_ok sg0 rfl rfl trivial ?_
    refine WL.nil ?_
    refine QT.n ?_
    refine WC.cond rfl (fun h5 => ?_) (fun h5 => ?_)
    · replace H := of_t H h5
      refine WC.region ?_
      refine WL.run 1 tt_ok sg0 rfl rfl trivial ?_
      obtain ⟨g6, H⟩ := of_need H
      refine WL.yv (LJ.Y.sliceT enc_api_Need (a0.getD s1.1.toNat default) tt_ok rfl (fun _ => rfl) none (some (.const (.int .i64 6))) (0 : Int) (6 : Int) rfl rfl ⟨_, rfl⟩ rfl rfl (nSl_ok g6)) rfl rfl rfl ?_
      refine WL.run 1 tt_ok sg0 rfl rfl trivial ?_
      refine WL.nil ?_
      refine QT.n ?_
      refine WC.region ?_
      refine WL.run 1 tt_ok sg0 rfl rfl trivial ?_
      refine WL.eff 127 tt_ok et_ok eg0 rfl rfl rfl trivial ?_
      refine WL.run 1 tt_ok sg0 rfl rfl trivial ?_
      refine WL.row 127 (([] : List T_api_Need).map enc_api_Need) rfl rfl rfl ?_
      obtain ⟨g7, H⟩ := of_need H
      refine WL.appT enc_api_Need ([] : List T_api_Need) (((a0.getD s1.1.toNat default).take (6 : Int).toNat).drop (0 : Int).toNat) tt_ok et_ok rfl rfl (fun _ => rfl) (fun _ => rfl) rfl rfl rfl rfl (nCap_ok g7) rfl rfl rfl rfl rfl ?_
      refine WL.freezeT 127 enc_api_Need (([] : List T_api_Need) ++ (((a0.getD s1.1.toNat default).take (6 : Int).toNat).drop (0 : Int).toNat)) rfl rfl rfl rfl ?_
      refine WL.eff 130 tt_ok et_ok eg0 rfl rfl rfl trivial ?_
      refine WL.freezeT 130 enc_sl_api_Need ([([] : List T_api_Need) ++ (((a0.getD s1.1.toNat default).take (6 : Int).toNat).drop (0 : Int).toNat)] : List (List T_api_Need)) rfl rfl rfl rfl ?_
      obtain ⟨g8, H⟩ := of_need H
      refine WL.appT enc_sl_api_Need s1.2 ([([] : List T_api_Need) ++ (((a0.getD s1.1.toNat default).take (6 : Int).toNat).drop (0 : Int).toNat)] : List (List T_api_Need)) tt_ok et_ok rfl rfl (fun _ => rfl) (fun _ => rfl) rfl rfl rfl rfl (nCap_ok g8) rfl rfl rfl rfl rfl ?_
      refine WL.run 1 tt_ok sg0 rfl rfl trivial ?_
      refine WL.nil ?_
      refine QB.n (QT.n ?_)
      refine WC.region ?_
      refine WL.run 3 tt_ok sg0 rfl rfl trivial ?_
      refine WL.nil ?_
      refine QT.n ?_
      exact ⟨⟨(k2, (IntKind.i64.wrap (s1.1 + 1), s1.2 ++ ([([] : List T_api_Need) ++ (((a0.getD s1.1.toNat default).take (6 : Int).toNat).drop (0 : Int).toNat)] : List (List T_api_Need)))), H⟩, Nat.lt_succ_self _, Less.mk' ⟨rfl, rfl, rfl, trivial⟩ ⟨rfl, trivial⟩⟩
    replace H := of_f H h5
    refine WC.skip ?_
    refine QT.n ?_
    refine WC.region ?_
    refine WL.run 1 tt_ok sg0 rfl rfl trivial ?_
    refine WL.eff 127 tt_ok et_ok eg0 rfl rfl rfl trivial ?_
    refine WL.run 1 tt_ok sg0 rfl rfl trivial ?_
    refine WL.row 127 (([] : List T_api_Need).map enc_api_Need) rfl rfl rfl ?_
    obtain ⟨g9, H⟩ := of_need H
    refine WL.appT enc_api_Need ([] : List T_api_Need) (a0.getD s1.1.toNat default) tt_ok et_ok rfl rfl (fun _ => rfl) (fun _ => rfl) rfl rfl rfl rfl (nCap_ok g9) rfl rfl rfl rfl rfl ?_
    refine WL.freezeT 127 enc_api_Need (([] : List T_api_Need) ++ (a0.getD s1.1.toNat default)) rfl rfl rfl rfl ?_
    refine WL.eff 130 tt_ok et_ok eg0 rfl rfl rfl trivial ?_
    refine WL.freezeT 130 enc_sl_api_Need ([([] : List T_api_Need) ++ (a0.getD s1.1.toNat default)] : List (List T_api_Need)) rfl rfl rfl rfl ?_
    obtain ⟨g10, H⟩ := of_need H
    refine WL.appT enc_sl_api_Need s1.2 ([([] : List T_api_Need) ++ (a0.getD s1.1.toNat default)] : List (List T_api_Need)) tt_ok et_ok rfl rfl (fun _ => rfl) (fun _ => rfl) rfl rfl rfl rfl (nCap_ok g10) rfl rfl rfl rfl rfl ?_
    refine WL.run 1 tt_ok sg0 rfl rfl trivial ?_
    refine WL.nil ?_
    refine QB.n (QT.n ?_)
    refine WC.region ?_
    refine WL.run 3 tt_ok sg0 rfl rfl trivial ?_
    refine WL.nil ?_
    refine QT.n ?_
    exact ⟨⟨(k2, (IntKind.i64.wrap (s1.1 + 1), s1.2 ++ ([([] : List T_api_Need) ++ (a0.getD s1.1.toNat default)] : List (List T_api_Need)))), H⟩, Nat.lt_succ_self _, Less.mk' ⟨rfl, rfl, rfl, trivial⟩ ⟨rfl, trivial⟩⟩
  replace H := of_f H h3
  refine WC.exit ?_
  refine QT.x (QT.x (QB.hit (QT.n ?_)))
  refine WC.seq ?_
  refine WC.region ?_
  refine WL.run 2 tt_ok sg0 rfl rfl trivial ?_
  refine WL.nil ?_
  refine QT.n ?_
  refine WC.freezeT 106 enc_sl_api_Need s1.2 rfl rfl rfl rfl ?_
  refine WC.ret ?_
  cases H
  exact Ends.auto rfl rfl rfl trivial
theorem law09_Own_f : hasFunc Try.prog 25 Try.f25 := ⟨Try.func25, rfl, by kernel_rfl⟩

/-! ### logjam/logjamlaw10.Own -/
theorem law10_Own_0 (a0 : T_api_Program) {r : T_api_Program} (H : law10_Own a0 = some r) : LJ.Spec Try.prog 10 [.d (.agg [slT enc_api_Decl a0.Decls, slT enc_sl_sl_api_Need a0.Waits, slT enc_api_Func a0.Funcs])] [] (.d (.agg [slT enc_api_Decl r.Decls, slT enc_sl_sl_api_Need r.Waits, slT enc_api_Func r.Funcs])) [] := by
  refine LJ.Spec.code Try.func10 rfl 113 rfl rfl [] rfl fun w0 F0 S0 B0 => ?_
  unfold law10_Own at H
  refine WC.seq ?_
  refine WC.region ?_
  refine WL.eff 101 tt_ok et_ok eg0 rfl rfl rfl trivial ?_
  refine WL.alloc 102 tt_ok rfl rfl rfl ?_
  refine WL.nil ?_
  refine QT.n ?_
  refine WC.seq ?_
  refine WC.region ?_
  refine WL.run 1 tt_ok sg0 rfl rfl trivial ?_
  refine WL.alloc 103 tt_ok rfl rfl rfl ?_
  refine WL.eff 0 tt_ok et_ok eg0 rfl rfl rfl trivial ?_
  refine WL.nil ?_
  refine QT.n ?_
  refine WC.seq ?_
  refine WC.seq ?_
  refine WC.region ?_
  refine WL.run 1 tt_ok sg0 rfl rfl trivial ?_
  refine WL.nil ?_
  refine QT.n ?_
  refine WC.block ?_
  refine WC.nilF 103 0 1022 70 3 rfl ?_
  refine WC.loop (ι := {x : Nat × (Int × (List T_api_Decl)) // law10_Own_l3 a0 x.1 x.2 = some r}) (fun x => [(1, .ptr 101 0), (2, .ptr 102 0), (3, .ptr 103 0), (4, .d (.int .i64 x.1.2.1))]) (fun x => [(101, .box 26 [.d (slT enc_api_Decl a0.Decls), .d (slT enc_sl_sl_api_Need a0.Waits), .d (slT enc_api_Func a0.Funcs)]), (102, .box 26 [.d (.nils), .d (.nils), .d (.nils)]), (103, .box 26 [.own 1022, .d (.nils), .d (.nils)]), (1022, .row 70 3 (x.1.2.2.map enc_api_Decl))]) (fun x => x.1.1) ⟨(fuel, (0, ([] : List T_api_Decl))), H⟩ (Less.mk' ⟨rfl, rfl, rfl, rfl, trivial⟩ ⟨rfl, rfl, rfl, rfl, trivial⟩) fun x => ?_
  obtain ⟨⟨k3, s2⟩, H⟩ := x
  rcases k3 with _ | k3
  · exact of_none H
  rw [law10_Own_l3] at H
  refine WC.seq ?_
  refine WC.seq ?_
  refine WC.region ?_
  refine WL.run 6 tt_ok sg0 rfl rfl trivial ?_
  refine WL.sect 2 5 true tt_ok sg0 rfl rfl (fun _ => trivial) ?_
  refine WL.run 1 tt_ok sg0 rfl rfl ⟨by first | exact id | exact fun h => by rw [h]; rfl | simp_all, trivial⟩ ?_
  refine WL.nil ?_
  refine QT.n ?_
  refine WC.cond rfl (fun h4 => ?_) (fun h4 => ?_)
  · replace H := of_t H h4
    refine WC.skip ?_
    refine QT.n ?_
    refine WC.seq ?_
    refine WC.block ?_
    obtain ⟨g5_5_1, H⟩ := of_need H
    obtain ⟨g5_8_1, H⟩ := of_need H
    refine WC.heldF [(1, .ptr 101 0), (2, .ptr 102 0), (3, .ptr 103 0), (4, .d (.int .i64 s2.1))] [(101, .box 26 [.d (slT enc_api_Decl a0.Decls), .d (slT enc_sl_sl_api_Need a0.Waits), .d (slT enc_api_Func a0.Funcs)]), (102, .box 26 [.d (.nils), .d (.nils), .d (.nils)]), (103, .box 26 [.own 1022, .d (.nils), .d (.nils)]), (1022, .row 70 3 ((s2.2 ++ ([(a0.Decls.getD s2.1.toNat default)] : List T_api_Decl)).map enc_api_Decl))] (.one 0 true (.one 2 true (.one 3 true (.one 4 true (.one 5 true (.one 6 true (.fork (.one 1 false (.one 7 false (.one 8 false (.one 9 true (.one 10 false .done))))) (.one 7 false (.one 1 false (.one 8 false (.one 9 true (.one 10 false .done)))))))))))) [101, 102, 103] [101, 102] rfl (by kernel_rfl) rfl (by kernel_rfl) rfl rfl (fun _ h => h) rfl rfl rfl (fun FK NK wK K => ?_) ?_
    · refine WH.run 6 tt_ok rfl rfl rfl rfl ⟨⟨(nIn_ok g5_5_1).1, (nIn_ok g5_5_1).2, rfl⟩, trivial⟩ ?_
      refine WH.fork ?_ ?_
      · refine WH.val tt_ok rfl rfl rfl rfl rfl trivial rfl rfl ?_
        refine WH.eff 128 tt_ok et_ok rfl rfl rfl rfl trivial rfl rfl ?_
        refine WH.freezeT 128 enc_api_Decl ([(a0.Decls.getD s2.1.toNat default)] : List T_api_Decl) rfl rfl rfl rfl ?_
        refine WH.appT enc_api_Decl s2.2 ([(a0.Decls.getD s2.1.toNat default)] : List T_api_Decl) tt_ok et_ok rfl rfl (fun _ => rfl) (fun _ => rfl) rfl rfl rfl rfl rfl (nCap_ok g5_8_1) rfl rfl rfl rfl rfl rfl rfl ?_
        refine WH.run 1 tt_ok rfl rfl rfl rfl trivial ?_
        refine WH.eff 0 tt_ok et_ok rfl rfl rfl rfl trivial rfl rfl ?_
        exact WH.nilF rfl (LessW.mk' ⟨AVle.of rfl, AVle.of rfl, AVle.of rfl, AVle.of rfl, trivial⟩ ⟨rfl, rfl, rfl, rfl, trivial⟩)
      · refine WH.eff 128 tt_ok et_ok rfl rfl rfl rfl trivial rfl rfl ?_
        refine WH.freezeT 128 enc_api_Decl ([(a0.Decls.getD s2.1.toNat default)] : List T_api_Decl) rfl rfl rfl rfl ?_
        refine WH.val tt_ok rfl rfl rfl rfl rfl trivial rfl rfl ?_
        refine WH.appT enc_api_Decl s2.2 ([(a0.Decls.getD s2.1.toNat default)] : List T_api_Decl) tt_ok et_ok rfl rfl (fun _ => rfl) (fun _ => rfl) rfl rfl rfl rfl rfl (nCap_ok g5_8_1) rfl rfl rfl rfl rfl rfl rfl ?_
        refine WH.run 1 tt_ok rfl rfl rfl rfl trivial ?_
        refine WH.eff 0 tt_ok et_ok rfl rfl rfl rfl trivial rfl rfl ?_
        exact WH.nilF rfl (LessW.mk' ⟨AVle.of rfl, AVle.of rfl, AVle.of rfl, AVle.of rfl, trivial⟩ ⟨rfl, rfl, rfl, rfl, trivial⟩)
    · refine QB.n (QT.n ?_)
      refine WC.region ?_
      refine WL.run 3 tt_ok sg0 rfl rfl trivial ?_
      refine WL.nil ?_
      refine QT.n ?_
      exact ⟨⟨(k3, (IntKind.i64.wrap (s2.1 + 1), s2.2 ++ ([(a0.Decls.getD s2.1.toNat default)] : List T_api_Decl))), H⟩, Nat.lt_succ_self _, Less.mk' ⟨rfl, rfl, rfl, rfl, trivial⟩ ⟨rfl, rfl, rfl, rfl, trivial⟩⟩
  replace H := of_f H h4
  refine WC.exit ?_
  refine QT.x (QT.x (QB.hit (QT.n ?_)))
  refine WC.seq ?_
  refine WC.seq ?_
  refine WC.region ?_
  refine WL.run 1 tt_ok sg0 rfl rfl trivial ?_
  refine WL.nil ?_
  refine QT.n ?_
  refine WC.block ?_
  refine WC.nilF 103 1 1043 71 1 rfl ?_
  refine WC.loop (ι := {x : Nat × (Int × (List (List (List T_api_Need)))) // law10_Own_l7 a0 s2 x.1 x.2 = some r}) (fun x => [(1, .ptr 101 0), (2, .ptr 102 0), (3, .ptr 103 0), (5, .d (.int .i64 x.1.2.1))]) (fun x => [(101, .box 26 [.d (slT enc_api_Decl a0.Decls), .d (slT enc_sl_sl_api_Need a0.Waits), .d (slT enc_api_Func a0.Funcs)]), (102, .box 26 [.d (.nils), .d (.nils), .d (.nils)]), (103, .box 26 [.own 1022, .own 1043, .d (.nils)]), (1022, .row 70 3 (s2.2.map enc_api_Decl)), (1043, .row 71 1 (x.1.2.2.map enc_sl_sl_api_Need))]) (fun x => x.1.1) ⟨(fuel, (0, ([] : List (List (List T_api_Need))))), H⟩ (Less.mk' ⟨rfl, rfl, rfl, rfl, trivial⟩ ⟨rfl, rfl, rfl, rfl, rfl, trivial⟩) fun x => ?_
  obtain ⟨⟨k7, s6⟩, H⟩ := x
  rcases k7 with _ | k7
  · exact of_none H
  rw [law10_Own_l7] at H
  refine WC.seq ?_
  refine WC.seq ?_
  refine WC.region ?_
  refine WL.run 6 tt_ok sg0 rfl rfl trivial ?_
  refine WL.sect 2 5 true tt_ok sg0 rfl rfl (fun _ => trivial) ?_
  refine WL.run 1 tt_ok sg0 rfl rfl ⟨by first | exact id | exact fun h => by rw [h]; rfl | simp_all, trivial⟩ ?_
  refine WL.nil ?_
  refine QT.n ?_
  refine WC.cond rfl (fun h8 => ?_) (fun h8 => ?_)
  · replace H := of_t H h8
    refine WC.skip ?_
    refine QT.n ?_
    refine WC.seq ?_
    refine WC.block ?_
    obtain ⟨g9_5_1, H⟩ := of_need H
    obtain ⟨x9_7_1, hx9_7_1, H⟩ := of_bind H
    obtain ⟨g9_9_1, H⟩ := of_need H
    refine WC.heldF [(1, .ptr 101 0), (2, .ptr 102 0), (3, .ptr 103 0), (5, .d (.int .i64 s6.1))] [(101, .box 26 [.d (slT enc_api_Decl a0.Decls), .d (slT enc_sl_sl_api_Need a0.Waits), .d (slT enc_api_Func a0.Funcs)]), (102, .box 26 [.d (.nils), .d (.nils), .d (.nils)]), (103, .box 26 [.own 1022, .own 1043, .d (.nils)]), (1022, .row 70 3 (s2.2.map enc_api_Decl)), (1043, .row 71 1 ((s6.2 ++ ([x9_7_1] : List (List (List T_api_Need)))).map enc_sl_sl_api_Need))] (.one 0 true (.one 2 true (.one 3 true (.one 4 true (.one 5 true (.one 6 true (.fork (.one 1 false (.one 7 false (.one 8 false (.one 9 false (.one 10 true (.one 11 false .done)))))) (.one 7 false (.fork (.one 1 false (.one 8 false (.one 9 false (.one 10 true (.one 11 false .done))))) (.one 8 false (.one 1 false (.one 9 false (.one 10 true (.one 11 false .done)))))))))))))) [101, 102, 103] [101, 102] rfl (by kernel_rfl) rfl (by kernel_rfl) rfl rfl (fun _ h => h) rfl rfl rfl (fun FK NK wK K => ?_) ?_
    · refine WH.run 6 tt_ok rfl rfl rfl rfl ⟨⟨(nIn_ok g9_5_1).1, (nIn_ok g9_5_1).2, rfl⟩, trivial⟩ ?_
      refine WH.fork ?_ ?_
      · refine WH.val tt_ok rfl rfl rfl rfl rfl trivial rfl rfl ?_
        refine WH.call [] rfl (law09_Own_0 _ hx9_7_1) law09_Own_f rfl rfl trivial rfl rfl rfl rfl rfl ?_
        refine WH.eff 150 tt_ok et_ok rfl rfl rfl rfl trivial rfl rfl ?_
        refine WH.freezeT 150 enc_sl_sl_api_Need ([x9_7_1] : List (List (List T_api_Need))) rfl rfl rfl rfl ?_
        refine WH.appT enc_sl_sl_api_Need s6.2 ([x9_7_1] : List (List (List T_api_Need))) tt_ok et_ok rfl rfl (fun _ => rfl) (fun _ => rfl) rfl rfl rfl rfl rfl (nCap_ok g9_9_1) rfl rfl rfl rfl rfl rfl rfl ?_
        refine WH.run 1 tt_ok rfl rfl rfl rfl trivial ?_
        refine WH.eff 0 tt_ok et_ok rfl rfl rfl rfl trivial rfl rfl ?_
        exact WH.nilF rfl (LessW.mk' ⟨AVle.of rfl, AVle.of rfl, AVle.of rfl, AVle.of rfl, trivial⟩ ⟨rfl, rfl, rfl, rfl, rfl, trivial⟩)
      · refine WH.call [] rfl (law09_Own_0 _ hx9_7_1) law09_Own_f rfl rfl trivial rfl rfl rfl rfl rfl ?_
        refine WH.fork ?_ ?_
        · refine WH.val tt_ok rfl rfl rfl rfl rfl trivial rfl rfl ?_
          refine WH.eff 150 tt_ok et_ok rfl rfl rfl rfl trivial rfl rfl ?_
          refine WH.freezeT 150 enc_sl_sl_api_Need ([x9_7_1] : List (List (List T_api_Need))) rfl rfl rfl rfl ?_
          refine WH.appT enc_sl_sl_api_Need s6.2 ([x9_7_1] : List (List (List T_api_Need))) tt_ok et_ok rfl rfl (fun _ => rfl) (fun _ => rfl) rfl rfl rfl rfl rfl (nCap_ok g9_9_1) rfl rfl rfl rfl rfl rfl rfl ?_
          refine WH.run 1 tt_ok rfl rfl rfl rfl trivial ?_
          refine WH.eff 0 tt_ok et_ok rfl rfl rfl rfl trivial rfl rfl ?_
          exact WH.nilF rfl (LessW.mk' ⟨AVle.of rfl, AVle.of rfl, AVle.of rfl, AVle.of rfl, trivial⟩ ⟨rfl, rfl, rfl, rfl, rfl, trivial⟩)
        · refine WH.eff 150 tt_ok et_ok rfl rfl rfl rfl trivial rfl rfl ?_
          refine WH.freezeT 150 enc_sl_sl_api_Need ([x9_7_1] : List (List (List T_api_Need))) rfl rfl rfl rfl ?_
          refine WH.val tt_ok rfl rfl rfl rfl rfl trivial rfl rfl ?_
          refine WH.appT enc_sl_sl_api_Need s6.2 ([x9_7_1] : List (List (List T_api_Need))) tt_ok et_ok rfl rfl (fun _ => rfl) (fun _ => rfl) rfl rfl rfl rfl rfl (nCap_ok g9_9_1) rfl rfl rfl rfl rfl rfl rfl ?_
          refine WH.run 1 tt_ok rfl rfl rfl rfl trivial ?_
          refine WH.eff 0 tt_ok et_ok rfl rfl rfl rfl trivial rfl rfl ?_
          exact WH.nilF rfl (LessW.mk' ⟨AVle.of rfl, AVle.of rfl, AVle.of rfl, AVle.of rfl, trivial⟩ ⟨rfl, rfl, rfl, rfl, rfl, trivial⟩)
    · refine QB.n (QT.n ?_)
      refine WC.region ?_
      refine WL.run 3 tt_ok sg0 rfl rfl trivial ?_
      refine WL.nil ?_
      refine QT.n ?_
      exact ⟨⟨(k7, (IntKind.i64.wrap (s6.1 + 1), s6.2 ++ ([x9_7_1] : List (List (List T_api_Need))))), H⟩, Nat.lt_succ_self _, Less.mk' ⟨rfl, rfl, rfl, rfl, trivial⟩ ⟨rfl, rfl, rfl, rfl, rfl, trivial⟩⟩
  replace H := of_f H h8
  refine WC.exit ?_
  refine QT.x (QT.x (QB.hit (QT.n ?_)))
  refine WC.seq ?_
  refine WC.seq ?_
  refine WC.region ?_
  refine WL.run 1 tt_ok sg0 rfl rfl trivial ?_
  refine WL.nil ?_
  refine QT.n ?_
  refine WC.block ?_
  refine WC.nilF 103 2 1107 58 3 rfl ?_
  refine WC.loop (ι := {x : Nat × (Int × (List T_api_Func)) // law10_Own_l11 a0 s2 s6 x.1 x.2 = some r}) (fun x => [(1, .ptr 101 0), (2, .ptr 102 0), (3, .ptr 103 0), (6, .d (.int .i64 x.1.2.1))]) (fun x => [(101, .box 26 [.d (slT enc_api_Decl a0.Decls), .d (slT enc_sl_sl_api_Need a0.Waits), .d (slT enc_api_Func a0.Funcs)]), (102, .box 26 [.d (.nils), .d (.nils), .d (.nils)]), (103, .box 26 [.own 1022, .own 1043, .own 1107]), (1022, .row 70 3 (s2.2.map enc_api_Decl)), (1043, .row 71 1 (s6.2.map enc_sl_sl_api_Need)), (1107, .row 58 3 (x.1.2.2.map enc_api_Func))]) (fun x => x.1.1) ⟨(fuel, (0, ([] : List T_api_Func))), H⟩ (Less.mk' ⟨rfl, rfl, rfl, rfl, trivial⟩ ⟨rfl, rfl, rfl, rfl, rfl, rfl, trivial⟩) fun x => ?_
  obtain ⟨⟨k11, s10⟩, H⟩ := x
  rcases k11 with _ | k11
  · exact of_none H
  rw [law10_Own_l11] at H
  refine WC.seq ?_
  refine WC.seq ?_
  refine WC.region ?_
  refine WL.run 6 tt_ok sg0 rfl rfl trivial ?_
  refine WL.sect 2 5 true tt_ok sg0 rfl rfl (fun _ => trivial) ?_
  refine WL.run 1 tt_ok sg0 rfl rfl ⟨by first | exact id | exact fun h => by rw [h]; rfl | simp_all, trivial⟩ ?_
  refine WL.nil ?_
  refine QT.n ?_
  refine WC.cond rfl (fun h12 => ?_) (fun h12 => ?_)
  · replace H := of_t H h12
    refine WC.skip ?_
    refine QT.n ?_
    obtain ⟨K13, hK13, H⟩ := of_withK H
    refine WC.cut (fun E m => ∃ s14 : List T_api_Func, K13 s14 = some r ∧ LessW E m [(1, .ptr 101 0), (2, .ptr 102 0), (3, .ptr 103 0), (6, .d (.int .i64 s10.1))] [(101, .box 26 [.d (slT enc_api_Decl a0.Decls), .d (slT enc_sl_sl_api_Need a0.Waits), .d (slT enc_api_Func a0.Funcs)]), (102, .box 26 [.d (.nils), .d (.nils), .d (.nils)]), (103, .box 26 [.own 1022, .own 1043, .own 1107]), (1022, .row 70 3 (s2.2.map enc_api_Decl)), (1043, .row 71 1 (s6.2.map enc_sl_sl_api_Need)), (1107, .row 58 3 (s14.map enc_api_Func))]) ?_ ?_
    · refine WC.block ?_
      refine WC.seq ?_
      refine WC.heldP (.one 0 true (.one 1 true (.one 2 true (.one 3 true (.one 4 true (.one 5 true (.one 6 true (.one 7 true (.one 8 true (.one 9 true (.one 10 true (.one 11 true (.one 12 true (.one 13 false (.one 14 false .done))))))))))))))) [101, 102, 103] [101, 102, 103] rfl (by kernel_rfl) rfl (by kernel_rfl) rfl rfl (fun _ h => h) rfl rfl rfl (fun _ _ _ h => h) fun FK NK wK K => ?_
      obtain ⟨g15, H⟩ := of_need H
      obtain ⟨g16, H⟩ := of_need H
      refine WH.run 13 tt_ok rfl rfl rfl rfl ⟨⟨(nIn_ok g15).1, (nIn_ok g15).2, rfl⟩, ⟨(nIn_ok g16).1, (nIn_ok g16).2, rfl⟩, trivial⟩ ?_
      refine WH.alloc 107 tt_ok rfl rfl rfl rfl rfl rfl ?_
      refine WH.eff 0 tt_ok et_ok rfl rfl rfl rfl trivial rfl rfl ?_
      refine WH.nil rfl ?_
      refine QT.n ?_
      refine WC.seq ?_
      refine WC.seq ?_
      refine WC.region ?_
      refine WL.run 1 tt_ok sg0 rfl rfl trivial ?_
      refine WL.nil ?_
      refine QT.n ?_
      refine WC.block ?_
      refine WC.nilF 107 2 1093 55 3 rfl ?_
      refine WC.loop (ι := {x : Nat × (Int × (List T_api_Ins)) // law10_Own_l19 a0 s10 K13 x.1 x.2 = some r}) (fun x => [(1, .ptr 101 0), (2, .ptr 102 0), (3, .ptr 103 0), (6, .d (.int .i64 s10.1)), (7, .ptr 107 0), (8, .d (.int .i64 x.1.2.1))]) (fun x => [(101, .box 26 [.d (slT enc_api_Decl a0.Decls), .d (slT enc_sl_sl_api_Need a0.Waits), .d (slT enc_api_Func a0.Funcs)]), (102, .box 26 [.d (.nils), .d (.nils), .d (.nils)]), (103, .box 26 [.own 1022, .own 1043, .own 1107]), (107, .box 58 [.d (.int .i64 ((a0.Funcs.getD s10.1.toNat default).Args)), .d (.int .i64 ((a0.Funcs.getD s10.1.toNat default).Locals)), .own 1093]), (1022, .row 70 3 (s2.2.map enc_api_Decl)), (1043, .row 71 1 (s6.2.map enc_sl_sl_api_Need)), (1093, .row 55 3 (x.1.2.2.map enc_api_Ins)), (1107, .row 58 3 (s10.2.map enc_api_Func))]) (fun x => x.1.1) ⟨(fuel, (0, ([] : List T_api_Ins))), H⟩ (Less.mk' ⟨rfl, rfl, rfl, rfl, rfl, rfl, trivial⟩ ⟨rfl, rfl, rfl, rfl, rfl, rfl, rfl, rfl, trivial⟩) fun x => ?_
      obtain ⟨⟨k19, s18⟩, H⟩ := x
      rcases k19 with _ | k19
      · exact of_none H
      rw [law10_Own_l19] at H
      refine WC.seq ?_
      refine WC.seq ?_
      refine WC.region ?_
      obtain ⟨g20, H⟩ := of_need H
      refine WL.run 10 tt_ok sg0 rfl rfl ⟨⟨(nIn_ok g20).1, (nIn_ok g20).2, rfl⟩, trivial⟩ ?_
      refine WL.sect 2 9 true tt_ok sg0 rfl rfl (fun _ => trivial) ?_
      refine WL.run 1 tt_ok sg0 rfl rfl ⟨by first | exact id | exact fun h => by rw [h]; rfl | simp_all, trivial⟩ ?_
      refine WL.nil ?_
      refine QT.n ?_
      refine WC.cond rfl (fun h21 => ?_) (fun h21 => ?_)
      · replace H := of_t H h21
        refine WC.skip ?_
        refine QT.n ?_
        refine WC.seq ?_
        refine WC.block ?_
        obtain ⟨g17_5_1, H⟩ := of_need H
        obtain ⟨g17_9_1, H⟩ := of_need H
        obtain ⟨g17_12_1, H⟩ := of_need H
        refine WC.heldF [(1, .ptr 101 0), (2, .ptr 102 0), (3, .ptr 103 0), (6, .d (.int .i64 s10.1)), (7, .ptr 107 0), (8, .d (.int .i64 s18.1))] [(101, .box 26 [.d (slT enc_api_Decl a0.Decls), .d (slT enc_sl_sl_api_Need a0.Waits), .d (slT enc_api_Func a0.Funcs)]), (102, .box 26 [.d (.nils), .d (.nils), .d (.nils)]), (103, .box 26 [.own 1022, .own 1043, .own 1107]), (107, .box 58 [.d (.int .i64 ((a0.Funcs.getD s10.1.toNat default).Args)), .d (.int .i64 ((a0.Funcs.getD s10.1.toNat default).Locals)), .own 1093]), (1022, .row 70 3 (s2.2.map enc_api_Decl)), (1043, .row 71 1 (s6.2.map enc_sl_sl_api_Need)), (1093, .row 55 3 ((s18.2 ++ ([(((a0.Funcs.getD s10.1.toNat default).Code).getD s18.1.toNat default)] : List T_api_Ins)).map enc_api_Ins)), (1107, .row 58 3 (s10.2.map enc_api_Func))] (.one 0 true (.one 2 true (.one 3 true (.one 4 true (.one 5 true (.one 6 true (.one 7 true (.one 8 true (.one 9 true (.one 10 true (.fork (.one 1 false (.one 11 false (.one 12 false (.one 13 true (.one 14 false .done))))) (.one 11 false (.one 1 false (.one 12 false (.one 13 true (.one 14 false .done)))))))))))))))) [101, 102, 103, 107] [101, 102, 103] rfl (by kernel_rfl) rfl (by kernel_rfl) rfl rfl (fun _ h => h) rfl rfl rfl (fun FK NK wK K => ?_) ?_
        · refine WH.run 10 tt_ok rfl rfl rfl rfl ⟨⟨(nIn_ok g17_5_1).1, (nIn_ok g17_5_1).2, rfl⟩, ⟨(nIn_ok g17_9_1).1, (nIn_ok g17_9_1).2, rfl⟩, trivial⟩ ?_
          refine WH.fork ?_ ?_
          · refine WH.val tt_ok rfl rfl rfl rfl rfl trivial rfl rfl ?_
            refine WH.eff 203 tt_ok et_ok rfl rfl rfl rfl trivial rfl rfl ?_
            refine WH.freezeT 203 enc_api_Ins ([(((a0.Funcs.getD s10.1.toNat default).Code).getD s18.1.toNat default)] : List T_api_Ins) rfl rfl rfl rfl ?_
            refine WH.appT enc_api_Ins s18.2 ([(((a0.Funcs.getD s10.1.toNat default).Code).getD s18.1.toNat default)] : List T_api_Ins) tt_ok et_ok rfl rfl (fun _ => rfl) (fun _ => rfl) rfl rfl rfl rfl rfl (nCap_ok g17_12_1) rfl rfl rfl rfl rfl rfl rfl ?_
            refine WH.run 1 tt_ok rfl rfl rfl rfl trivial ?_
            refine WH.eff 0 tt_ok et_ok rfl rfl rfl rfl trivial rfl rfl ?_
            exact WH.nilF rfl (LessW.mk' ⟨AVle.of rfl, AVle.of rfl, AVle.of rfl, AVle.of rfl, AVle.of rfl, AVle.of rfl, trivial⟩ ⟨rfl, rfl, rfl, rfl, rfl, rfl, rfl, rfl, trivial⟩)
          · refine WH.eff 203 tt_ok et_ok rfl rfl rfl rfl trivial rfl rfl ?_
            refine WH.freezeT 203 enc_api_Ins ([(((a0.Funcs.getD s10.1.toNat default).Code).getD s18.1.toNat default)] : List T_api_Ins) rfl rfl rfl rfl ?_
            refine WH.val tt_ok rfl rfl rfl rfl rfl trivial rfl rfl ?_
            refine WH.appT enc_api_Ins s18.2 ([(((a0.Funcs.getD s10.1.toNat default).Code).getD s18.1.toNat default)] : List T_api_Ins) tt_ok et_ok rfl rfl (fun _ => rfl) (fun _ => rfl) rfl rfl rfl rfl rfl (nCap_ok g17_12_1) rfl rfl rfl rfl rfl rfl rfl ?_
            refine WH.run 1 tt_ok rfl rfl rfl rfl trivial ?_
            refine WH.eff 0 tt_ok et_ok rfl rfl rfl rfl trivial rfl rfl ?_
            exact WH.nilF rfl (LessW.mk' ⟨AVle.of rfl, AVle.of rfl, AVle.of rfl, AVle.of rfl, AVle.of rfl, AVle.of rfl, trivial⟩ ⟨rfl, rfl, rfl, rfl, rfl, rfl, rfl, rfl, trivial⟩)
        · refine QB.n (QT.n ?_)
          refine WC.region ?_
          refine WL.run 3 tt_ok sg0 rfl rfl trivial ?_
          refine WL.nil ?_
          refine QT.n ?_
          exact ⟨⟨(k19, (IntKind.i64.wrap (s18.1 + 1), s18.2 ++ ([(((a0.Funcs.getD s10.1.toNat default).Code).getD s18.1.toNat default)] : List T_api_Ins))), H⟩, Nat.lt_succ_self _, Less.mk' ⟨rfl, rfl, rfl, rfl, rfl, rfl, trivial⟩ ⟨rfl, rfl, rfl, rfl, rfl, rfl, rfl, rfl, trivial⟩⟩
      replace H := of_f H h21
      refine WC.exit ?_
      refine QT.x (QT.x (QB.hit (QT.n ?_)))
      refine WC.region ?_
      refine WL.run 2 tt_ok sg0 rfl rfl trivial ?_
      refine WL.freezeT 1093 enc_api_Ins s18.2 rfl rfl rfl rfl ?_
      refine WL.run 1 tt_ok sg0 rfl rfl trivial ?_
      refine WL.eff 209 tt_ok et_ok eg0 rfl rfl rfl trivial ?_
      refine WL.freezeT 209 enc_api_Func ([(⟨(a0.Funcs.getD s10.1.toNat default).Args, (a0.Funcs.getD s10.1.toNat default).Locals, s18.2⟩ : T_api_Func)] : List T_api_Func) rfl rfl rfl rfl ?_
      obtain ⟨g22, H⟩ := of_need H
      refine WL.appT enc_api_Func s10.2 ([(⟨(a0.Funcs.getD s10.1.toNat default).Args, (a0.Funcs.getD s10.1.toNat default).Locals, s18.2⟩ : T_api_Func)] : List T_api_Func) tt_ok et_ok rfl rfl (fun _ => rfl) (fun _ => rfl) rfl rfl rfl rfl (nCap_ok g22) rfl rfl rfl rfl rfl ?_
      refine WL.run 1 tt_ok sg0 rfl rfl trivial ?_
      refine WL.eff 0 tt_ok et_ok eg0 rfl rfl rfl trivial ?_
      refine WL.nil ?_
      refine QB.n (QT.n ?_)
      exact ⟨s10.2 ++ ([(⟨(a0.Funcs.getD s10.1.toNat default).Args, (a0.Funcs.getD s10.1.toNat default).Locals, s18.2⟩ : T_api_Func)] : List T_api_Func), H, LessW.mk' ⟨AVle.of rfl, AVle.of rfl, AVle.of rfl, AVle.of rfl, trivial⟩ ⟨rfl, rfl, rfl, rfl, rfl, rfl, trivial⟩⟩
    · rintro E m ⟨s14, H, hl⟩
      refine WC.lessW hl ?_
      replace H := (hK13 _).symm.trans H
      try dsimp only at H
      refine WC.region ?_
      refine WL.run 3 tt_ok sg0 rfl rfl trivial ?_
      refine WL.nil ?_
      refine QT.n ?_
      exact ⟨⟨(k11, (IntKind.i64.wrap (s10.1 + 1), s14)), H⟩, Nat.lt_succ_self _, Less.mk' ⟨rfl, rfl, rfl, rfl, trivial⟩ ⟨rfl, rfl, rfl, rfl, rfl, rfl, trivial⟩⟩
  replace H := of_f H h12
  refine WC.exit ?_
  refine QT.x (QT.x (QB.hit (QT.n ?_)))
  refine WC.seq ?_
  refine WC.region ?_
  refine WL.freezeT 1022 enc_api_Decl s2.2 rfl rfl rfl rfl ?_
  refine WL.freezeT 1043 enc_sl_sl_api_Need s6.2 rfl rfl rfl rfl ?_
  refine WL.freezeT 1107 enc_api_Func s10.2 rfl rfl rfl rfl ?_
  refine WL.run 1 tt_ok sg0 rfl rfl trivial ?_
  refine WL.eff 0 tt_ok et_ok eg0 rfl rfl rfl trivial ?_
  refine WL.nil ?_
  refine QT.n ?_
  refine WC.ret ?_
  cases H
  exact Ends.autoC tt_ok rfl rfl rfl trivial
theorem law10_Own_f : hasFunc Try.prog 10 Try.f10 := ⟨Try.func10, rfl, by kernel_rfl⟩

end Go.Proofs.Ytcnfbifekdmacaa.W
