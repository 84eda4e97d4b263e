/- Each Go function comes to what its plain function gives, where that gives something. -/
import Derived.Test.YtcnfbifekdmacaaPF
import Derived.Test.YtcnfbifekdmacaaWF2
import Derived.Test.YtcnfbifekdmacaaXRsl
namespace Go.Proofs.Ytcnfbifekdmacaa.W
open Go Go.RowKit LJ
set_option linter.unusedVariables false
set_option linter.unusedSimpArgs false
set_option maxRecDepth 10000
/-! ### logjam/logjamref14.Same -/
theorem ref14_Same_0 (a0 : List T_api_Frame) (a1 : List T_api_Frame) {r : Bool} (H : ref14_Same a0 a1 = some r) : LJ.Spec Try.prog 12 [.d (slT enc_api_Frame a0), .d (slT enc_api_Frame a1)] [] (.d (.bool r)) [] := by
  refine LJ.Spec.code Try.func12 rfl 75 rfl rfl [] rfl fun w0 F0 S0 B0 => ?_
  unfold ref14_Same at H
  refine WC.seq ?_
  refine WC.region ?_
  refine WL.run 1 tt_ok sg0 rfl rfl trivial ?_
  refine WL.nil ?_
  refine QT.n ?_
  refine WC.seq ?_
  refine WC.seq ?_
  refine WC.region ?_
  refine WL.run 5 tt_ok sg0 rfl rfl trivial ?_
  refine WL.nil ?_
  refine QT.n ?_
  refine WC.cond rfl (fun h1 => ?_) (fun h1 => ?_)
  · replace H := of_t H h1
    refine WC.seq ?_
    refine WC.region ?_
    refine WL.run 1 tt_ok sg0 rfl rfl trivial ?_
    refine WL.nil ?_
    refine QT.n ?_
    refine WC.ret ?_
    refine QT.r ?_
    cases H
    exact Ends.auto rfl rfl rfl trivial
  replace H := of_f H h1
  refine WC.skip ?_
  refine QT.n ?_
  refine WC.seq ?_
  refine WC.seq ?_
  refine WC.region ?_
  refine WL.run 1 tt_ok sg0 rfl rfl trivial ?_
  refine WL.nil ?_
  refine QT.n ?_
  refine WC.block ?_
  refine WC.loop (ι := {x : Nat × Int // ref14_Same_l3 a0 a1 x.1 x.2 = some r}) (fun x => [(0, .d (slT enc_api_Frame a0)), (1, .d (slT enc_api_Frame a1)), (5, .d (.int .i64 x.1.2))]) (fun x => []) (fun x => x.1.1) ⟨(fuel, 0), H⟩ (Less.mk' ⟨rfl, rfl, rfl, trivial⟩ trivial) fun x => ?_
  obtain ⟨⟨k3, s2⟩, H⟩ := x
  rcases k3 with _ | k3
  · exact of_none H
  rw [ref14_Same_l3] at H
  refine WC.seq ?_
  refine WC.seq ?_
  refine WC.region ?_
  refine WL.run 4 tt_ok sg0 rfl rfl trivial ?_
  refine WL.nil ?_
  refine QT.n ?_
  refine WC.cond rfl (fun h4 => ?_) (fun h4 => ?_)
  · replace H := of_t H h4
    refine WC.skip ?_
    refine QT.n ?_
    obtain ⟨K5, hK5, H⟩ := of_withK H
    refine WC.cut (fun E m => ∃ s6 : Unit, K5 s6 = some r ∧ LessW E m [(0, .d (slT enc_api_Frame a0)), (1, .d (slT enc_api_Frame a1)), (5, .d (.int .i64 s2))] []) ?_ ?_
    · refine WC.block ?_
      refine WC.seq ?_
      obtain ⟨g6_2_1, H⟩ := of_need H
      obtain ⟨g6_6_1, H⟩ := of_need H
      refine WC.heldF [(0, .d (slT enc_api_Frame a0)), (1, .d (slT enc_api_Frame a1)), (5, .d (.int .i64 s2)), (6, .ptr 106 0), (7, .ptr 107 0)] [(106, .box 45 [.d (.int .i64 ((a0.getD s2.toNat default).Fn)), .d (.int .i64 ((a0.getD s2.toNat default).Pc)), .d (.int .i64 ((a0.getD s2.toNat default).N)), .d (.int .i64 (((a0.getD s2.toNat default).L).getD 0 default)), .d (.int .i64 (((a0.getD s2.toNat default).L).getD 1 default)), .d (.int .i64 (((a0.getD s2.toNat default).L).getD 2 default)), .d (.int .i64 (((a0.getD s2.toNat default).L).getD 3 default)), .d (.int .i64 (((a0.getD s2.toNat default).L).getD 4 default)), .d (.int .i64 (((a0.getD s2.toNat default).L).getD 5 default)), .d (.int .i64 (((a0.getD s2.toNat default).L).getD 6 default)), .d (.int .i64 (((a0.getD s2.toNat default).L).getD 7 default)), .d (.int .i64 (((a0.getD s2.toNat default).S).getD 0 default)), .d (.int .i64 (((a0.getD s2.toNat default).S).getD 1 default)), .d (.int .i64 (((a0.getD s2.toNat default).S).getD 2 default)), .d (.int .i64 (((a0.getD s2.toNat default).S).getD 3 default)), .d (.int .i64 (((a0.getD s2.toNat default).S).getD 4 default)), .d (.int .i64 (((a0.getD s2.toNat default).S).getD 5 default)), .d (.int .i64 (((a0.getD s2.toNat default).S).getD 6 default)), .d (.int .i64 (((a0.getD s2.toNat default).S).getD 7 default)), .d (.int .i64 (((a0.getD s2.toNat default).S).getD 8 default)), .d (.int .i64 (((a0.getD s2.toNat default).S).getD 9 default)), .d (.int .i64 (((a0.getD s2.toNat default).S).getD 10 default)), .d (.int .i64 (((a0.getD s2.toNat default).S).getD 11 default)), .d (.int .i64 (((a0.getD s2.toNat default).S).getD 12 default)), .d (.int .i64 (((a0.getD s2.toNat default).S).getD 13 default)), .d (.int .i64 (((a0.getD s2.toNat default).S).getD 14 default)), .d (.int .i64 (((a0.getD s2.toNat default).S).getD 15 default))]), (107, .box 45 [.d (.int .i64 ((a1.getD s2.toNat default).Fn)), .d (.int .i64 ((a1.getD s2.toNat default).Pc)), .d (.int .i64 ((a1.getD s2.toNat default).N)), .d (.int .i64 (((a1.getD s2.toNat default).L).getD 0 default)), .d (.int .i64 (((a1.getD s2.toNat default).L).getD 1 default)), .d (.int .i64 (((a1.getD s2.toNat default).L).getD 2 default)), .d (.int .i64 (((a1.getD s2.toNat default).L).getD 3 default)), .d (.int .i64 (((a1.getD s2.toNat default).L).getD 4 default)), .d (.int .i64 (((a1.getD s2.toNat default).L).getD 5 default)), .d (.int .i64 (((a1.getD s2.toNat default).L).getD 6 default)), .d (.int .i64 (((a1.getD s2.toNat default).L).getD 7 default)), .d (.int .i64 (((a1.getD s2.toNat default).S).getD 0 default)), .d (.int .i64 (((a1.getD s2.toNat default).S).getD 1 default)), .d (.int .i64 (((a1.getD s2.toNat default).S).getD 2 default)), .d (.int .i64 (((a1.getD s2.toNat default).S).getD 3 default)), .d (.int .i64 (((a1.getD s2.toNat default).S).getD 4 default)), .d (.int .i64 (((a1.getD s2.toNat default).S).getD 5 default)), .d (.int .i64 (((a1.getD s2.toNat default).S).getD 6 default)), .d (.int .i64 (((a1.getD s2.toNat default).S).getD 7 default)), .d (.int .i64 (((a1.getD s2.toNat default).S).getD 8 default)), .d (.int .i64 (((a1.getD s2.toNat default).S).getD 9 default)), .d (.int .i64 (((a1.getD s2.toNat default).S).getD 10 default)), .d (.int .i64 (((a1.getD s2.toNat default).S).getD 11 default)), .d (.int .i64 (((a1.getD s2.toNat default).S).getD 12 default)), .d (.int .i64 (((a1.getD s2.toNat default).S).getD 13 default)), .d (.int .i64 (((a1.getD s2.toNat default).S).getD 14 default)), .d (.int .i64 (((a1.getD s2.toNat default).S).getD 15 default))])] (.one 0 true (.one 1 true (.one 2 true (.one 3 true (.one 4 true (.one 5 true (.one 6 true (.one 7 true (.fork (.one 8 false (.one 9 false (.one 10 false (.one 11 false .done)))) (.one 9 false (.one 8 false (.one 10 false (.one 11 false .done))))))))))))) [] [] rfl (by kernel_rfl) rfl (by kernel_rfl) rfl rfl (fun _ h => h) rfl rfl rfl (fun FK NK wK K => ?_) ?_
      · refine WH.run 8 tt_ok rfl rfl rfl rfl ⟨⟨(nIn_ok g6_2_1).1, (nIn_ok g6_2_1).2, rfl⟩, ⟨(nIn_ok g6_6_1).1, (nIn_ok g6_6_1).2, rfl⟩, trivial⟩ ?_
        refine WH.fork ?_ ?_
        · refine WH.alloc 106 tt_ok rfl rfl rfl rfl rfl rfl ?_
          refine WH.alloc 107 tt_ok rfl rfl rfl rfl rfl rfl ?_
          refine WH.eff 0 tt_ok et_ok rfl rfl rfl rfl trivial rfl rfl ?_
          refine WH.eff 0 tt_ok et_ok rfl rfl rfl rfl trivial rfl rfl ?_
          exact WH.nilF rfl (LessW.mk' ⟨AVle.of rfl, AVle.of rfl, AVle.of rfl, AVle.of rfl, AVle.of rfl, trivial⟩ ⟨rfl, rfl, trivial⟩)
        · refine WH.alloc 107 tt_ok rfl rfl rfl rfl rfl rfl ?_
          refine WH.alloc 106 tt_ok rfl rfl rfl rfl rfl rfl ?_
          refine WH.eff 0 tt_ok et_ok rfl rfl rfl rfl trivial rfl rfl ?_
          refine WH.eff 0 tt_ok et_ok rfl rfl rfl rfl trivial rfl rfl ?_
          exact WH.nilF rfl (LessW.mk' ⟨AVle.of rfl, AVle.of rfl, AVle.of rfl, AVle.of rfl, AVle.of rfl, trivial⟩ ⟨rfl, rfl, trivial⟩)
      · refine QT.n ?_
        refine WC.seq ?_
        refine WC.seq ?_
        refine WC.region ?_
        refine WL.run 6 tt_ok sg0 rfl rfl trivial ?_
        refine WL.sect 5 5 false tt_ok sg0 rfl rfl (fun _ => trivial) ?_
        refine WL.run 2 tt_ok sg0 rfl rfl ⟨by first | exact id | exact fun h => by rw [h]; rfl | simp_all, trivial⟩ ?_
        refine WL.sect 5 12 false tt_ok sg0 rfl rfl (fun _ => trivial) ?_
        refine WL.run 1 tt_ok sg0 rfl rfl ⟨by first | exact id | exact fun h => by rw [h]; rfl | simp_all, trivial⟩ ?_
        refine WL.nil ?_
        refine QT.n ?_
        refine WC.cond rfl (fun h7 => ?_) (fun h7 => ?_)
        · replace H := of_t H h7
          refine WC.seq ?_
          refine WC.region ?_
          refine WL.run 1 tt_ok sg0 rfl rfl trivial ?_
          refine WL.nil ?_
          refine QT.n ?_
          refine WC.ret ?_
          refine QT.r (QB.r (QT.r (QT.r (QB.r (QT.r ?_)))))
          cases H
          exact Ends.auto rfl rfl rfl trivial
        replace H := of_f H h7
        refine WC.skip ?_
        refine QT.n ?_
        refine WC.seq ?_
        refine WC.region ?_
        refine WL.run 1 tt_ok sg0 rfl rfl trivial ?_
        refine WL.nil ?_
        refine QT.n ?_
        refine WC.block ?_
        refine WC.loop (ι := {x : Nat × Int // ref14_Same_l9 a0 a1 s2 K5 x.1 x.2 = some r}) (fun x => [(0, .d (slT enc_api_Frame a0)), (1, .d (slT enc_api_Frame a1)), (5, .d (.int .i64 s2)), (6, .ptr 106 0), (7, .ptr 107 0), (8, .d (.int .i64 x.1.2))]) (fun x => [(106, .box 45 [.d (.int .i64 ((a0.getD s2.toNat default).Fn)), .d (.int .i64 ((a0.getD s2.toNat default).Pc)), .d (.int .i64 ((a0.getD s2.toNat default).N)), .d (.int .i64 (((a0.getD s2.toNat default).L).getD 0 default)), .d (.int .i64 (((a0.getD s2.toNat default).L).getD 1 default)), .d (.int .i64 (((a0.getD s2.toNat default).L).getD 2 default)), .d (.int .i64 (((a0.getD s2.toNat default).L).getD 3 default)), .d (.int .i64 (((a0.getD s2.toNat default).L).getD 4 default)), .d (.int .i64 (((a0.getD s2.toNat default).L).getD 5 default)), .d (.int .i64 (((a0.getD s2.toNat default).L).getD 6 default)), .d (.int .i64 (((a0.getD s2.toNat default).L).getD 7 default)), .d (.int .i64 (((a0.getD s2.toNat default).S).getD 0 default)), .d (.int .i64 (((a0.getD s2.toNat default).S).getD 1 default)), .d (.int .i64 (((a0.getD s2.toNat default).S).getD 2 default)), .d (.int .i64 (((a0.getD s2.toNat default).S).getD 3 default)), .d (.int .i64 (((a0.getD s2.toNat default).S).getD 4 default)), .d (.int .i64 (((a0.getD s2.toNat default).S).getD 5 default)), .d (.int .i64 (((a0.getD s2.toNat default).S).getD 6 default)), .d (.int .i64 (((a0.getD s2.toNat default).S).getD 7 default)), .d (.int .i64 (((a0.getD s2.toNat default).S).getD 8 default)), .d (.int .i64 (((a0.getD s2.toNat default).S).getD 9 default)), .d (.int .i64 (((a0.getD s2.toNat default).S).getD 10 default)), .d (.int .i64 (((a0.getD s2.toNat default).S).getD 11 default)), .d (.int .i64 (((a0.getD s2.toNat default).S).getD 12 default)), .d (.int .i64 (((a0.getD s2.toNat default).S).getD 13 default)), .d (.int .i64 (((a0.getD s2.toNat default).S).getD 14 default)), .d (.int .i64 (((a0.getD s2.toNat default).S).getD 15 default))]), (107, .box 45 [.d (.int .i64 ((a1.getD s2.toNat default).Fn)), .d (.int .i64 ((a1.getD s2.toNat default).Pc)), .d (.int .i64 ((a1.getD s2.toNat default).N)), .d (.int .i64 (((a1.getD s2.toNat default).L).getD 0 default)), .d (.int .i64 (((a1.getD s2.toNat default).L).getD 1 default)), .d (.int .i64 (((a1.getD s2.toNat default).L).getD 2 default)), .d (.int .i64 (((a1.getD s2.toNat default).L).getD 3 default)), .d (.int .i64 (((a1.getD s2.toNat default).L).getD 4 default)), .d (.int .i64 (((a1.getD s2.toNat default).L).getD 5 default)), .d (.int .i64 (((a1.getD s2.toNat default).L).getD 6 default)), .d (.int .i64 (((a1.getD s2.toNat default).L).getD 7 default)), .d (.int .i64 (((a1.getD s2.toNat default).S).getD 0 default)), .d (.int .i64 (((a1.getD s2.toNat default).S).getD 1 default)), .d (.int .i64 (((a1.getD s2.toNat default).S).getD 2 default)), .d (.int .i64 (((a1.getD s2.toNat default).S).getD 3 default)), .d (.int .i64 (((a1.getD s2.toNat default).S).getD 4 default)), .d (.int .i64 (((a1.getD s2.toNat default).S).getD 5 default)), .d (.int .i64 (((a1.getD s2.toNat default).S).getD 6 default)), .d (.int .i64 (((a1.getD s2.toNat default).S).getD 7 default)), .d (.int .i64 (((a1.getD s2.toNat default).S).getD 8 default)), .d (.int .i64 (((a1.getD s2.toNat default).S).getD 9 default)), .d (.int .i64 (((a1.getD s2.toNat default).S).getD 10 default)), .d (.int .i64 (((a1.getD s2.toNat default).S).getD 11 default)), .d (.int .i64 (((a1.getD s2.toNat default).S).getD 12 default)), .d (.int .i64 (((a1.getD s2.toNat default).S).getD 13 default)), .d (.int .i64 (((a1.getD s2.toNat default).S).getD 14 default)), .d (.int .i64 (((a1.getD s2.toNat default).S).getD 15 default))])]) (fun x => x.1.1) ⟨(fuel, 0), H⟩ (Less.mk' ⟨rfl, rfl, rfl, rfl, rfl, rfl, trivial⟩ ⟨rfl, rfl, trivial⟩) fun x => ?_
        obtain ⟨⟨k9, s8⟩, H⟩ := x
        rcases k9 with _ | k9
        · exact of_none H
        rw [ref14_Same_l9] at H
        refine WC.seq ?_
        refine WC.seq ?_
        refine WC.region ?_
        refine WL.run 2 tt_ok sg0 rfl rfl trivial ?_
        refine WL.nil ?_
        refine QT.n ?_
        refine WC.cond rfl (fun h10 => ?_) (fun h10 => ?_)
        · replace H := of_t H h10
          refine WC.skip ?_
          refine QT.n ?_
          refine WC.seq ?_
          refine WC.block ?_
          refine WC.seq ?_
          refine WC.heldP (.one 0 true (.one 1 true (.one 2 true (.one 3 true (.one 4 true (.one 5 true (.one 6 true (.one 7 true (.one 8 true (.one 9 true (.one 10 true (.one 11 true (.one 12 true (.one 13 true (.one 14 true (.one 15 true (.one 16 true (.one 17 true (.one 18 true (.one 19 true (.one 20 true (.one 21 true (.one 22 true (.one 23 true .done)))))))))))))))))))))))) [106, 107] [106, 107] rfl (by kernel_rfl) rfl (by kernel_rfl) rfl rfl (fun _ h => h) rfl rfl rfl (fun _ _ _ h => h) fun FK NK wK K => ?_
          refine WH.run 2 tt_ok rfl rfl rfl rfl trivial ?_
          obtain ⟨g11, H⟩ := of_need H
          refine WH.yv rfl (LJ.Y.idxPtrA 16 s8 (by kernel_rfl) rfl rfl rfl (nIn_ok g11)) rfl rfl rfl ?_
          refine WH.yv rfl (LJ.Y.loadPtrA 16 11 (fun k => .int .i64 (((a0.getD s2.toNat default).S).getD k default)) s8 rfl rfl rfl (by kernel_rfl) rfl (nIn_ok g11)) rfl rfl rfl ?_
          refine WH.run 2 tt_ok rfl rfl rfl rfl trivial ?_
          obtain ⟨g12, H⟩ := of_need H
          refine WH.yv rfl (LJ.Y.idxPtrA 16 s8 (by kernel_rfl) rfl rfl rfl (nIn_ok g12)) rfl rfl rfl ?_
          refine WH.yv rfl (LJ.Y.loadPtrA 16 11 (fun k => .int .i64 (((a1.getD s2.toNat default).S).getD k default)) s8 rfl rfl rfl (by kernel_rfl) rfl (nIn_ok g12)) rfl rfl rfl ?_
          refine WH.run 2 tt_ok rfl rfl rfl rfl trivial ?_
          refine WH.split (g := 60) rfl (fun h13 => ?_) (fun h13 => ?_)
          · replace H := of_t H h13
            refine WH.gskip rfl rfl rfl rfl rfl rfl rfl ?_
            refine WH.gskip rfl rfl rfl rfl rfl rfl rfl ?_
            refine WH.gskip rfl rfl rfl rfl rfl rfl rfl ?_
            refine WH.gskip rfl rfl rfl rfl rfl rfl rfl ?_
            refine WH.gskip rfl rfl rfl rfl rfl rfl rfl ?_
            refine WH.gskip rfl rfl rfl rfl rfl rfl rfl ?_
            refine WH.gskip rfl rfl rfl rfl rfl rfl rfl ?_
            refine WH.gskip rfl rfl rfl rfl rfl rfl rfl ?_
            refine WH.gskip rfl rfl rfl rfl rfl rfl rfl ?_
            refine WH.gskip rfl rfl rfl rfl rfl rfl rfl ?_
            refine WH.gskip rfl rfl rfl rfl rfl rfl rfl ?_
            refine WH.gskip rfl rfl rfl rfl rfl rfl rfl ?_
            refine WH.gskip rfl rfl rfl rfl rfl rfl rfl ?_
            refine WH.pick1 rfl rfl rfl rfl rfl rfl rfl ?_
            refine WH.nil rfl ?_
            refine QT.n ?_
            refine WC.cond rfl (fun h => ?_) (fun h => absurd h (by decide))
            refine WC.seq ?_
            refine WC.region ?_
            refine WL.run 1 tt_ok sg0 rfl rfl trivial ?_
            refine WL.nil ?_
            refine QT.n ?_
            refine WC.ret ?_
            refine QB.r (QT.r (QT.r (QB.r (QB.r (QT.r (QT.r (QB.r (QT.r ?_))))))))
            cases H
            exact Ends.auto rfl rfl rfl trivial
          · replace H := of_f H h13
            refine WH.grun 3 9 false 60 tt_ok rfl rfl rfl rfl rfl rfl trivial ?_
            refine WH.split (g := 63) rfl (fun h14 => ?_) (fun h14 => ?_)
            · replace H := of_t H h14
              refine WH.grun 2 12 true 63 tt_ok rfl rfl rfl rfl rfl rfl trivial ?_
              obtain ⟨g15, H⟩ := of_need H
              refine WH.gyv rfl (LJ.Y.idxPtrA 8 s8 (by kernel_rfl) rfl rfl rfl (nIn_ok g15)) rfl rfl rfl rfl rfl rfl ?_
              refine WH.gyv rfl (LJ.Y.loadPtrA 8 3 (fun k => .int .i64 (((a0.getD s2.toNat default).L).getD k default)) s8 rfl rfl rfl (by kernel_rfl) rfl (nIn_ok g15)) rfl rfl rfl rfl rfl rfl ?_
              refine WH.grun 2 12 true 63 tt_ok rfl rfl rfl rfl rfl rfl trivial ?_
              obtain ⟨g16, H⟩ := of_need H
              refine WH.gyv rfl (LJ.Y.idxPtrA 8 s8 (by kernel_rfl) rfl rfl rfl (nIn_ok g16)) rfl rfl rfl rfl rfl rfl ?_
              refine WH.gyv rfl (LJ.Y.loadPtrA 8 3 (fun k => .int .i64 (((a1.getD s2.toNat default).L).getD k default)) s8 rfl rfl rfl (by kernel_rfl) rfl (nIn_ok g16)) rfl rfl rfl rfl rfl rfl ?_
              refine WH.grun 1 12 true 63 tt_ok rfl rfl rfl rfl rfl rfl trivial ?_
              refine WH.gpick1 rfl rfl rfl rfl rfl rfl rfl rfl rfl rfl ?_
              refine WH.pick1 rfl rfl rfl rfl rfl rfl rfl ?_
              refine WH.nil rfl ?_
              refine QT.n ?_
              refine WC.cond rfl (fun h17 => ?_) (fun h17 => ?_)
              · replace H := of_t H h17
                refine WC.seq ?_
                refine WC.region ?_
                refine WL.run 1 tt_ok sg0 rfl rfl trivial ?_
                refine WL.nil ?_
                refine QT.n ?_
                refine WC.ret ?_
                refine QB.r (QT.r (QT.r (QB.r (QB.r (QT.r (QT.r (QB.r (QT.r ?_))))))))
                cases H
                exact Ends.auto rfl rfl rfl trivial
              replace H := of_f H h17
              refine WC.skip ?_
              refine QB.n (QT.n ?_)
              refine WC.region ?_
              refine WL.run 3 tt_ok sg0 rfl rfl trivial ?_
              refine WL.nil ?_
              refine QT.n ?_
              exact ⟨⟨(k9, IntKind.i64.wrap (s8 + 1)), H⟩, Nat.lt_succ_self _, Less.mk' ⟨rfl, rfl, rfl, rfl, rfl, rfl, trivial⟩ ⟨rfl, rfl, trivial⟩⟩
            · replace H := of_f H h14
              refine WH.gskip rfl rfl rfl rfl rfl rfl rfl ?_
              refine WH.gskip rfl rfl rfl rfl rfl rfl rfl ?_
              refine WH.gskip rfl rfl rfl rfl rfl rfl rfl ?_
              refine WH.gskip rfl rfl rfl rfl rfl rfl rfl ?_
              refine WH.gskip rfl rfl rfl rfl rfl rfl rfl ?_
              refine WH.gskip rfl rfl rfl rfl rfl rfl rfl ?_
              refine WH.gskip rfl rfl rfl rfl rfl rfl rfl ?_
              refine WH.gskip rfl rfl rfl rfl rfl rfl rfl ?_
              refine WH.gskip rfl rfl rfl rfl rfl rfl rfl ?_
              refine WH.gpick1 rfl rfl rfl rfl rfl rfl rfl rfl rfl rfl ?_
              refine WH.pick1 rfl rfl rfl rfl rfl rfl rfl ?_
              refine WH.nil rfl ?_
              refine QT.n ?_
              refine WC.cond rfl (fun h => absurd h (by decide)) (fun h => ?_)
              refine WC.skip ?_
              refine QB.n (QT.n ?_)
              refine WC.region ?_
              refine WL.run 3 tt_ok sg0 rfl rfl trivial ?_
              refine WL.nil ?_
              refine QT.n ?_
              exact ⟨⟨(k9, IntKind.i64.wrap (s8 + 1)), H⟩, Nat.lt_succ_self _, Less.mk' ⟨rfl, rfl, rfl, rfl, rfl, rfl, trivial⟩ ⟨rfl, rfl, trivial⟩⟩
        replace H := of_f H h10
        refine WC.exit ?_
        refine QT.x (QT.x (QB.hit (QB.n (QT.n ?_))))
        exact ⟨Unit.unit, H, LessW.mk' ⟨AVle.of rfl, AVle.of rfl, AVle.of rfl, trivial⟩ trivial⟩
    · rintro E m ⟨s6, H, hl⟩
      refine WC.lessW hl ?_
      replace H := (hK5 _).symm.trans H
      try dsimp only at H
      refine WC.region ?_
      refine WL.run 3 tt_ok sg0 rfl rfl trivial ?_
      refine WL.nil ?_
      refine QT.n ?_
      exact ⟨⟨(k3, IntKind.i64.wrap (s2 + 1)), H⟩, Nat.lt_succ_self _, Less.mk' ⟨rfl, rfl, rfl, trivial⟩ trivial⟩
  replace H := of_f H h4
  refine WC.exit ?_
  refine QT.x (QT.x (QB.hit (QT.n ?_)))
  refine WC.seq ?_
  refine WC.region ?_
  refine WL.run 1 tt_ok sg0 rfl rfl trivial ?_
  refine WL.nil ?_
  refine QT.n ?_
  refine WC.ret ?_
  cases H
  exact Ends.auto rfl rfl rfl trivial
theorem ref14_Same_f : hasFunc Try.prog 12 Try.f12 := ⟨Try.func12, rfl, by kernel_rfl⟩

/-! ### logjam/logjamlaw15.ExecDoes -/
theorem law15_ExecDoes_0 (a0 : T_api_Program) (a1 : T_law15_Start) {r : Bool} (H : law15_ExecDoes a0 a1 = some r) : LJ.Spec Try.prog 3 [.d (.agg [slT enc_api_Decl a0.Decls, slT enc_sl_sl_api_Need a0.Waits, slT enc_api_Func a0.Funcs]), .d (.agg [.int .i64 a1.Fn, slT enc_i64 a1.Args, .int .i64 a1.Steps, .int .i64 a1.Self, .int .i64 a1.Now])] [] (.d (.bool r)) [] := by
  refine LJ.Spec.code Try.func3 rfl 70 rfl rfl [] rfl fun w0 F0 S0 B0 => ?_
  unfold law15_ExecDoes at H
  refine WC.seq ?_
  refine WC.region ?_
  refine WL.eff 102 tt_ok et_ok eg0 rfl rfl rfl trivial ?_
  refine WL.eff 103 tt_ok et_ok eg0 rfl rfl rfl trivial ?_
  refine WL.run 1 tt_ok sg0 rfl rfl trivial ?_
  refine WL.nil ?_
  refine QT.n ?_
  refine WC.seq ?_
  refine WC.region ?_
  refine WL.run 2 tt_ok sg0 rfl rfl trivial ?_
  obtain ⟨x1, hx1, H⟩ := of_bind H
  refine WL.call [] (law15_begun_0 _ _ hx1) law15_begun_f rfl rfl trivial rfl rfl rfl ?_
  refine WL.run 5 tt_ok sg0 rfl rfl trivial ?_
  refine WL.nil ?_
  refine QT.n ?_
  refine WC.seq ?_
  refine WC.seq ?_
  refine WC.region ?_
  refine WL.run 2 tt_ok sg0 rfl rfl trivial ?_
  refine WL.nil ?_
  refine QT.n ?_
  refine WC.cond rfl (fun h2 => ?_) (fun h2 => ?_)
  · replace H := of_t H h2
    refine WC.seq ?_
    refine WC.region ?_
    obtain ⟨x3, hx3, H⟩ := of_bind H
    refine WL.call [] (law15_lives_0 hx3) law15_lives_f rfl rfl trivial rfl rfl rfl ?_
    refine WL.run 1 tt_ok sg0 rfl rfl trivial ?_
    refine WL.nil ?_
    refine QT.n ?_
    refine WC.ret ?_
    refine QT.r ?_
    cases H
    exact Ends.auto rfl rfl rfl trivial
  replace H := of_f H h2
  refine WC.skip ?_
  refine QT.n ?_
  refine WC.seq ?_
  refine WC.region ?_
  refine WL.eff 123 tt_ok et_ok eg0 rfl rfl rfl trivial ?_
  refine WL.run 1 tt_ok sg0 rfl rfl trivial ?_
  refine WL.row 123 (([] : List T_api_Frame).map enc_api_Frame) rfl rfl rfl ?_
  obtain ⟨g4, H⟩ := of_need H
  refine WL.appT enc_api_Frame ([] : List T_api_Frame) x1.1 tt_ok et_ok rfl rfl (fun _ => rfl) (fun _ => rfl) rfl rfl rfl rfl (nCap_ok g4) rfl rfl rfl rfl rfl ?_
  refine WL.run 1 tt_ok sg0 rfl rfl trivial ?_
  refine WL.nil ?_
  refine QT.n ?_
  refine WC.seq ?_
  obtain ⟨x5_1_1, hx5_1_1, H⟩ := of_bind H
  obtain ⟨x5_7_1, hx5_7_1, H⟩ := of_bind H
  refine WC.heldF [(2, .ptr 102 0), (3, .ptr 103 0), (5, .d (slT enc_api_Frame x1.1)), (7, .own 123), (8, .d (slT enc_api_Frame x5_7_1.1)), (9, .ptr 109 0), (10, .d (.int .i64 x5_7_1.2.2))] [(102, .box 26 [.d (slT enc_api_Decl a0.Decls), .d (slT enc_sl_sl_api_Need a0.Waits), .d (slT enc_api_Func a0.Funcs)]), (103, .box 29 [.d (.int .i64 a1.Fn), .d (slT enc_i64 a1.Args), .d (.int .i64 a1.Steps), .d (.int .i64 a1.Self), .d (.int .i64 a1.Now)]), (109, .box 36 [.d (.int .i64 x5_7_1.2.1.Op), .d (.int .i64 x5_7_1.2.1.A), .d (.int .i64 x5_7_1.2.1.B), .d (.int .i64 (x5_7_1.2.1.X.getD 0 default)), .d (.int .i64 (x5_7_1.2.1.X.getD 1 default)), .d (.int .i64 (x5_7_1.2.1.X.getD 2 default)), .d (.int .i64 (x5_7_1.2.1.X.getD 3 default)), .d (.int .i64 (x5_7_1.2.1.X.getD 4 default))]), (123, .row 45 27 ((([] : List T_api_Frame) ++ x1.1).map enc_api_Frame))] (.one 0 true (.one 2 true (.one 3 true (.one 4 true (.one 5 true (.one 6 true (.fork (.one 1 false (.fork (.one 7 false (.one 8 true (.fork (.one 9 false (.fork (.one 10 false (.fork (.one 11 false (.one 12 false (.one 13 true (.one 14 false (.one 15 true .done))))) (.one 12 false (.one 13 true (.fork (.one 11 false (.one 14 false (.one 15 true .done))) (.one 14 false (.one 11 false (.one 15 true .done)))))))) (.fork (.one 11 false (.fork (.one 10 false (.one 12 false (.one 13 true (.one 14 false (.one 15 true .done))))) (.one 12 false (.one 13 true (.one 10 false (.one 14 false (.one 15 true .done))))))) (.one 12 false (.one 13 true (.fork (.one 10 false (.fork (.one 11 false (.one 14 false (.one 15 true .done))) (.one 14 false (.one 11 false (.one 15 true .done))))) (.one 11 false (.one 10 false (.one 14 false (.one 15 true .done)))))))))) (.fork (.one 10 false (.fork (.one 9 false (.fork (.one 11 false (.one 12 false (.one 13 true (.one 14 false (.one 15 true .done))))) (.one 12 false (.one 13 true (.fork (.one 11 false (.one 14 false (.one 15 true .done))) (.one 14 false (.one 11 false (.one 15 true .done)))))))) (.fork (.one 11 false (.fork (.one 9 false (.one 12 false (.one 13 true (.one 14 false (.one 15 true .done))))) (.one 12 false (.one 9 false (.one 13 true (.one 14 false (.one 15 true .done))))))) (.one 12 false (.fork (.one 9 false (.one 13 true (.fork (.one 11 false (.one 14 false (.one 15 true .done))) (.one 14 false (.one 11 false (.one 15 true .done)))))) (.one 11 false (.one 9 false (.one 13 true (.one 14 false (.one 15 true .done)))))))))) (.fork (.one 11 false (.fork (.one 9 false (.fork (.one 10 false (.one 12 false (.one 13 true (.one 14 false (.one 15 true .done))))) (.one 12 false (.one 13 true (.one 10 false (.one 14 false (.one 15 true .done))))))) (.fork (.one 10 false (.fork (.one 9 false (.one 12 false (.one 13 true (.one 14 false (.one 15 true .done))))) (.one 12 false (.one 9 false (.one 13 true (.one 14 false (.one 15 true .done))))))) (.one 12 false (.fork (.one 9 false (.one 13 true (.one 10 false (.one 14 false (.one 15 true .done))))) (.one 10 false (.one 9 false (.one 13 true (.one 14 false (.one 15 true .done)))))))))) (.one 12 false (.fork (.one 9 false (.one 13 true (.fork (.one 10 false (.fork (.one 11 false (.one 14 false (.one 15 true .done))) (.one 14 false (.one 11 false (.one 15 true .done))))) (.one 11 false (.one 10 false (.one 14 false (.one 15 true .done))))))) (.fork (.one 10 false (.fork (.one 9 false (.one 13 true (.fork (.one 11 false (.one 14 false (.one 15 true .done))) (.one 14 false (.one 11 false (.one 15 true .done)))))) (.one 11 false (.one 9 false (.one 13 true (.one 14 false (.one 15 true .done))))))) (.one 11 false (.fork (.one 9 false (.one 13 true (.one 10 false (.one 14 false (.one 15 true .done))))) (.one 10 false (.one 9 false (.one 13 true (.one 14 false (.one 15 true .done))))))))))))))) (.one 12 false (.one 7 false (.one 8 true (.fork (.one 9 false (.one 13 true (.fork (.one 10 false (.fork (.one 11 false (.one 14 false (.one 15 true .done))) (.one 14 false (.one 11 false (.one 15 true .done))))) (.one 11 false (.one 10 false (.one 14 false (.one 15 true .done))))))) (.fork (.one 10 false (.fork (.one 9 false (.one 13 true (.fork (.one 11 false (.one 14 false (.one 15 true .done))) (.one 14 false (.one 11 false (.one 15 true .done)))))) (.one 11 false (.one 9 false (.one 13 true (.one 14 false (.one 15 true .done))))))) (.one 11 false (.fork (.one 9 false (.one 13 true (.one 10 false (.one 14 false (.one 15 true .done))))) (.one 10 false (.one 9 false (.one 13 true (.one 14 false (.one 15 true .done)))))))))))))) (.one 12 false (.one 1 false (.one 7 false (.one 8 true (.fork (.one 9 false (.one 13 true (.fork (.one 10 false (.fork (.one 11 false (.one 14 false (.one 15 true .done))) (.one 14 false (.one 11 false (.one 15 true .done))))) (.one 11 false (.one 10 false (.one 14 false (.one 15 true .done))))))) (.fork (.one 10 false (.fork (.one 9 false (.one 13 true (.fork (.one 11 false (.one 14 false (.one 15 true .done))) (.one 14 false (.one 11 false (.one 15 true .done)))))) (.one 11 false (.one 9 false (.one 13 true (.one 14 false (.one 15 true .done))))))) (.one 11 false (.fork (.one 9 false (.one 13 true (.one 10 false (.one 14 false (.one 15 true .done))))) (.one 10 false (.one 9 false (.one 13 true (.one 14 false (.one 15 true .done)))))))))))))))))))) [102, 103] [102, 103] rfl (by kernel_rfl) rfl (by kernel_rfl) rfl rfl (fun _ h => h) rfl rfl rfl (fun FK NK wK K => ?_) ?_
  · refine WH.run 6 tt_ok rfl rfl rfl rfl trivial ?_
    refine WH.fork ?_ ?_
    · refine WH.call [] rfl (law10_Own_0 _ hx5_1_1) law10_Own_f rfl rfl trivial rfl rfl rfl rfl rfl ?_
      refine WH.fork ?_ ?_
      · refine WH.call [] rfl (exec_Do_0 _ _ _ _ hx5_7_1) exec_Do_f rfl rfl trivial rfl rfl rfl rfl rfl ?_
        refine WH.mv rfl rfl rfl rfl rfl rfl rfl rfl rfl ?_
        refine WH.fork ?_ (WH.fork ?_ (WH.fork ?_ ?_))
        · refine WH.val tt_ok rfl rfl rfl rfl rfl trivial rfl rfl ?_
          refine WH.fork ?_ (WH.fork ?_ ?_)
          · refine WH.val tt_ok rfl rfl rfl rfl rfl trivial rfl rfl ?_
            refine WH.fork ?_ ?_
            · refine WH.val tt_ok rfl rfl rfl rfl rfl trivial rfl rfl ?_
              refine WH.alloc 109 tt_ok rfl rfl rfl rfl rfl rfl ?_
              refine WH.mv rfl rfl rfl rfl rfl rfl rfl rfl rfl ?_
              refine WH.eff 0 tt_ok et_ok rfl rfl rfl rfl trivial rfl rfl ?_
              refine WH.run 1 tt_ok rfl rfl rfl rfl trivial ?_
              exact WH.nilF rfl (LessW.mk' ⟨AVle.of rfl, AVle.of rfl, AVle.of rfl, AVle.of rfl, AVle.of rfl, AVle.of rfl, AVle.of rfl, trivial⟩ ⟨rfl, rfl, rfl, rfl, trivial⟩)
            · refine WH.alloc 109 tt_ok rfl rfl rfl rfl rfl rfl ?_
              refine WH.mv rfl rfl rfl rfl rfl rfl rfl rfl rfl ?_
              refine WH.fork ?_ ?_
              · refine WH.val tt_ok rfl rfl rfl rfl rfl trivial rfl rfl ?_
                refine WH.eff 0 tt_ok et_ok rfl rfl rfl rfl trivial rfl rfl ?_
                refine WH.run 1 tt_ok rfl rfl rfl rfl trivial ?_
                exact WH.nilF rfl (LessW.mk' ⟨AVle.of rfl, AVle.of rfl, AVle.of rfl, AVle.of rfl, AVle.of rfl, AVle.of rfl, AVle.of rfl, trivial⟩ ⟨rfl, rfl, rfl, rfl, trivial⟩)
              · refine WH.eff 0 tt_ok et_ok rfl rfl rfl rfl trivial rfl rfl ?_
                refine WH.val tt_ok rfl rfl rfl rfl rfl trivial rfl rfl ?_
                refine WH.run 1 tt_ok rfl rfl rfl rfl trivial ?_
                exact WH.nilF rfl (LessW.mk' ⟨AVle.of rfl, AVle.of rfl, AVle.of rfl, AVle.of rfl, AVle.of rfl, AVle.of rfl, AVle.of rfl, trivial⟩ ⟨rfl, rfl, rfl, rfl, trivial⟩)
          · refine WH.val tt_ok rfl rfl rfl rfl rfl trivial rfl rfl ?_
            refine WH.fork ?_ ?_
            · refine WH.val tt_ok rfl rfl rfl rfl rfl trivial rfl rfl ?_
              refine WH.alloc 109 tt_ok rfl rfl rfl rfl rfl rfl ?_
              refine WH.mv rfl rfl rfl rfl rfl rfl rfl rfl rfl ?_
              refine WH.eff 0 tt_ok et_ok rfl rfl rfl rfl trivial rfl rfl ?_
              refine WH.run 1 tt_ok rfl rfl rfl rfl trivial ?_
              exact WH.nilF rfl (LessW.mk' ⟨AVle.of rfl, AVle.of rfl, AVle.of rfl, AVle.of rfl, AVle.of rfl, AVle.of rfl, AVle.of rfl, trivial⟩ ⟨rfl, rfl, rfl, rfl, trivial⟩)
            · refine WH.alloc 109 tt_ok rfl rfl rfl rfl rfl rfl ?_
              refine WH.mv rfl rfl rfl rfl rfl rfl rfl rfl rfl ?_
              refine WH.val tt_ok rfl rfl rfl rfl rfl trivial rfl rfl ?_
              refine WH.eff 0 tt_ok et_ok rfl rfl rfl rfl trivial rfl rfl ?_
              refine WH.run 1 tt_ok rfl rfl rfl rfl trivial ?_
              exact WH.nilF rfl (LessW.mk' ⟨AVle.of rfl, AVle.of rfl, AVle.of rfl, AVle.of rfl, AVle.of rfl, AVle.of rfl, AVle.of rfl, trivial⟩ ⟨rfl, rfl, rfl, rfl, trivial⟩)
          · refine WH.alloc 109 tt_ok rfl rfl rfl rfl rfl rfl ?_
            refine WH.mv rfl rfl rfl rfl rfl rfl rfl rfl rfl ?_
            refine WH.fork ?_ ?_
            · refine WH.val tt_ok rfl rfl rfl rfl rfl trivial rfl rfl ?_
              refine WH.fork ?_ ?_
              · refine WH.val tt_ok rfl rfl rfl rfl rfl trivial rfl rfl ?_
                refine WH.eff 0 tt_ok et_ok rfl rfl rfl rfl trivial rfl rfl ?_
                refine WH.run 1 tt_ok rfl rfl rfl rfl trivial ?_
                exact WH.nilF rfl (LessW.mk' ⟨AVle.of rfl, AVle.of rfl, AVle.of rfl, AVle.of rfl, AVle.of rfl, AVle.of rfl, AVle.of rfl, trivial⟩ ⟨rfl, rfl, rfl, rfl, trivial⟩)
              · refine WH.eff 0 tt_ok et_ok rfl rfl rfl rfl trivial rfl rfl ?_
                refine WH.val tt_ok rfl rfl rfl rfl rfl trivial rfl rfl ?_
                refine WH.run 1 tt_ok rfl rfl rfl rfl trivial ?_
                exact WH.nilF rfl (LessW.mk' ⟨AVle.of rfl, AVle.of rfl, AVle.of rfl, AVle.of rfl, AVle.of rfl, AVle.of rfl, AVle.of rfl, trivial⟩ ⟨rfl, rfl, rfl, rfl, trivial⟩)
            · refine WH.val tt_ok rfl rfl rfl rfl rfl trivial rfl rfl ?_
              refine WH.val tt_ok rfl rfl rfl rfl rfl trivial rfl rfl ?_
              refine WH.eff 0 tt_ok et_ok rfl rfl rfl rfl trivial rfl rfl ?_
              refine WH.run 1 tt_ok rfl rfl rfl rfl trivial ?_
              exact WH.nilF rfl (LessW.mk' ⟨AVle.of rfl, AVle.of rfl, AVle.of rfl, AVle.of rfl, AVle.of rfl, AVle.of rfl, AVle.of rfl, trivial⟩ ⟨rfl, rfl, rfl, rfl, trivial⟩)
        · refine WH.val tt_ok rfl rfl rfl rfl rfl trivial rfl rfl ?_
          refine WH.fork ?_ (WH.fork ?_ ?_)
          · refine WH.val tt_ok rfl rfl rfl rfl rfl trivial rfl rfl ?_
            refine WH.fork ?_ ?_
            · refine WH.val tt_ok rfl rfl rfl rfl rfl trivial rfl rfl ?_
              refine WH.alloc 109 tt_ok rfl rfl rfl rfl rfl rfl ?_
              refine WH.mv rfl rfl rfl rfl rfl rfl rfl rfl rfl ?_
              refine WH.eff 0 tt_ok et_ok rfl rfl rfl rfl trivial rfl rfl ?_
              refine WH.run 1 tt_ok rfl rfl rfl rfl trivial ?_
              exact WH.nilF rfl (LessW.mk' ⟨AVle.of rfl, AVle.of rfl, AVle.of rfl, AVle.of rfl, AVle.of rfl, AVle.of rfl, AVle.of rfl, trivial⟩ ⟨rfl, rfl, rfl, rfl, trivial⟩)
            · refine WH.alloc 109 tt_ok rfl rfl rfl rfl rfl rfl ?_
              refine WH.mv rfl rfl rfl rfl rfl rfl rfl rfl rfl ?_
              refine WH.fork ?_ ?_
              · refine WH.val tt_ok rfl rfl rfl rfl rfl trivial rfl rfl ?_
                refine WH.eff 0 tt_ok et_ok rfl rfl rfl rfl trivial rfl rfl ?_
                refine WH.run 1 tt_ok rfl rfl rfl rfl trivial ?_
                exact WH.nilF rfl (LessW.mk' ⟨AVle.of rfl, AVle.of rfl, AVle.of rfl, AVle.of rfl, AVle.of rfl, AVle.of rfl, AVle.of rfl, trivial⟩ ⟨rfl, rfl, rfl, rfl, trivial⟩)
              · refine WH.eff 0 tt_ok et_ok rfl rfl rfl rfl trivial rfl rfl ?_
                refine WH.val tt_ok rfl rfl rfl rfl rfl trivial rfl rfl ?_
                refine WH.run 1 tt_ok rfl rfl rfl rfl trivial ?_
                exact WH.nilF rfl (LessW.mk' ⟨AVle.of rfl, AVle.of rfl, AVle.of rfl, AVle.of rfl, AVle.of rfl, AVle.of rfl, AVle.of rfl, trivial⟩ ⟨rfl, rfl, rfl, rfl, trivial⟩)
          · refine WH.val tt_ok rfl rfl rfl rfl rfl trivial rfl rfl ?_
            refine WH.fork ?_ ?_
            · refine WH.val tt_ok rfl rfl rfl rfl rfl trivial rfl rfl ?_
              refine WH.alloc 109 tt_ok rfl rfl rfl rfl rfl rfl ?_
              refine WH.mv rfl rfl rfl rfl rfl rfl rfl rfl rfl ?_
              refine WH.eff 0 tt_ok et_ok rfl rfl rfl rfl trivial rfl rfl ?_
              refine WH.run 1 tt_ok rfl rfl rfl rfl trivial ?_
              exact WH.nilF rfl (LessW.mk' ⟨AVle.of rfl, AVle.of rfl, AVle.of rfl, AVle.of rfl, AVle.of rfl, AVle.of rfl, AVle.of rfl, trivial⟩ ⟨rfl, rfl, rfl, rfl, trivial⟩)
            · refine WH.alloc 109 tt_ok rfl rfl rfl rfl rfl rfl ?_
              refine WH.val tt_ok rfl rfl rfl rfl rfl trivial rfl rfl ?_
              refine WH.mv rfl rfl rfl rfl rfl rfl rfl rfl rfl ?_
              refine WH.eff 0 tt_ok et_ok rfl rfl rfl rfl trivial rfl rfl ?_
              refine WH.run 1 tt_ok rfl rfl rfl rfl trivial ?_
              exact WH.nilF rfl (LessW.mk' ⟨AVle.of rfl, AVle.of rfl, AVle.of rfl, AVle.of rfl, AVle.of rfl, AVle.of rfl, AVle.of rfl, trivial⟩ ⟨rfl, rfl, rfl, rfl, trivial⟩)
          · refine WH.alloc 109 tt_ok rfl rfl rfl rfl rfl rfl ?_
            refine WH.fork ?_ ?_
            · refine WH.val tt_ok rfl rfl rfl rfl rfl trivial rfl rfl ?_
              refine WH.mv rfl rfl rfl rfl rfl rfl rfl rfl rfl ?_
              refine WH.fork ?_ ?_
              · refine WH.val tt_ok rfl rfl rfl rfl rfl trivial rfl rfl ?_
                refine WH.eff 0 tt_ok et_ok rfl rfl rfl rfl trivial rfl rfl ?_
                refine WH.run 1 tt_ok rfl rfl rfl rfl trivial ?_
                exact WH.nilF rfl (LessW.mk' ⟨AVle.of rfl, AVle.of rfl, AVle.of rfl, AVle.of rfl, AVle.of rfl, AVle.of rfl, AVle.of rfl, trivial⟩ ⟨rfl, rfl, rfl, rfl, trivial⟩)
              · refine WH.eff 0 tt_ok et_ok rfl rfl rfl rfl trivial rfl rfl ?_
                refine WH.val tt_ok rfl rfl rfl rfl rfl trivial rfl rfl ?_
                refine WH.run 1 tt_ok rfl rfl rfl rfl trivial ?_
                exact WH.nilF rfl (LessW.mk' ⟨AVle.of rfl, AVle.of rfl, AVle.of rfl, AVle.of rfl, AVle.of rfl, AVle.of rfl, AVle.of rfl, trivial⟩ ⟨rfl, rfl, rfl, rfl, trivial⟩)
            · refine WH.val tt_ok rfl rfl rfl rfl rfl trivial rfl rfl ?_
              refine WH.val tt_ok rfl rfl rfl rfl rfl trivial rfl rfl ?_
              refine WH.mv rfl rfl rfl rfl rfl rfl rfl rfl rfl ?_
              refine WH.eff 0 tt_ok et_ok rfl rfl rfl rfl trivial rfl rfl ?_
              refine WH.run 1 tt_ok rfl rfl rfl rfl trivial ?_
              exact WH.nilF rfl (LessW.mk' ⟨AVle.of rfl, AVle.of rfl, AVle.of rfl, AVle.of rfl, AVle.of rfl, AVle.of rfl, AVle.of rfl, trivial⟩ ⟨rfl, rfl, rfl, rfl, trivial⟩)
        · refine WH.val tt_ok rfl rfl rfl rfl rfl trivial rfl rfl ?_
          refine WH.fork ?_ (WH.fork ?_ ?_)
          · refine WH.val tt_ok rfl rfl rfl rfl rfl trivial rfl rfl ?_
            refine WH.fork ?_ ?_
            · refine WH.val tt_ok rfl rfl rfl rfl rfl trivial rfl rfl ?_
              refine WH.alloc 109 tt_ok rfl rfl rfl rfl rfl rfl ?_
              refine WH.mv rfl rfl rfl rfl rfl rfl rfl rfl rfl ?_
              refine WH.eff 0 tt_ok et_ok rfl rfl rfl rfl trivial rfl rfl ?_
              refine WH.run 1 tt_ok rfl rfl rfl rfl trivial ?_
              exact WH.nilF rfl (LessW.mk' ⟨AVle.of rfl, AVle.of rfl, AVle.of rfl, AVle.of rfl, AVle.of rfl, AVle.of rfl, AVle.of rfl, trivial⟩ ⟨rfl, rfl, rfl, rfl, trivial⟩)
            · refine WH.alloc 109 tt_ok rfl rfl rfl rfl rfl rfl ?_
              refine WH.mv rfl rfl rfl rfl rfl rfl rfl rfl rfl ?_
              refine WH.val tt_ok rfl rfl rfl rfl rfl trivial rfl rfl ?_
              refine WH.eff 0 tt_ok et_ok rfl rfl rfl rfl trivial rfl rfl ?_
              refine WH.run 1 tt_ok rfl rfl rfl rfl trivial ?_
              exact WH.nilF rfl (LessW.mk' ⟨AVle.of rfl, AVle.of rfl, AVle.of rfl, AVle.of rfl, AVle.of rfl, AVle.of rfl, AVle.of rfl, trivial⟩ ⟨rfl, rfl, rfl, rfl, trivial⟩)
          · refine WH.val tt_ok rfl rfl rfl rfl rfl trivial rfl rfl ?_
            refine WH.fork ?_ ?_
            · refine WH.val tt_ok rfl rfl rfl rfl rfl trivial rfl rfl ?_
              refine WH.alloc 109 tt_ok rfl rfl rfl rfl rfl rfl ?_
              refine WH.mv rfl rfl rfl rfl rfl rfl rfl rfl rfl ?_
              refine WH.eff 0 tt_ok et_ok rfl rfl rfl rfl trivial rfl rfl ?_
              refine WH.run 1 tt_ok rfl rfl rfl rfl trivial ?_
              exact WH.nilF rfl (LessW.mk' ⟨AVle.of rfl, AVle.of rfl, AVle.of rfl, AVle.of rfl, AVle.of rfl, AVle.of rfl, AVle.of rfl, trivial⟩ ⟨rfl, rfl, rfl, rfl, trivial⟩)
            · refine WH.alloc 109 tt_ok rfl rfl rfl rfl rfl rfl ?_
              refine WH.val tt_ok rfl rfl rfl rfl rfl trivial rfl rfl ?_
              refine WH.mv rfl rfl rfl rfl rfl rfl rfl rfl rfl ?_
              refine WH.eff 0 tt_ok et_ok rfl rfl rfl rfl trivial rfl rfl ?_
              refine WH.run 1 tt_ok rfl rfl rfl rfl trivial ?_
              exact WH.nilF rfl (LessW.mk' ⟨AVle.of rfl, AVle.of rfl, AVle.of rfl, AVle.of rfl, AVle.of rfl, AVle.of rfl, AVle.of rfl, trivial⟩ ⟨rfl, rfl, rfl, rfl, trivial⟩)
          · refine WH.alloc 109 tt_ok rfl rfl rfl rfl rfl rfl ?_
            refine WH.fork ?_ ?_
            · refine WH.val tt_ok rfl rfl rfl rfl rfl trivial rfl rfl ?_
              refine WH.mv rfl rfl rfl rfl rfl rfl rfl rfl rfl ?_
              refine WH.val tt_ok rfl rfl rfl rfl rfl trivial rfl rfl ?_
              refine WH.eff 0 tt_ok et_ok rfl rfl rfl rfl trivial rfl rfl ?_
              refine WH.run 1 tt_ok rfl rfl rfl rfl trivial ?_
              exact WH.nilF rfl (LessW.mk' ⟨AVle.of rfl, AVle.of rfl, AVle.of rfl, AVle.of rfl, AVle.of rfl, AVle.of rfl, AVle.of rfl, trivial⟩ ⟨rfl, rfl, rfl, rfl, trivial⟩)
            · refine WH.val tt_ok rfl rfl rfl rfl rfl trivial rfl rfl ?_
              refine WH.val tt_ok rfl rfl rfl rfl rfl trivial rfl rfl ?_
              refine WH.mv rfl rfl rfl rfl rfl rfl rfl rfl rfl ?_
              refine WH.eff 0 tt_ok et_ok rfl rfl rfl rfl trivial rfl rfl ?_
              refine WH.run 1 tt_ok rfl rfl rfl rfl trivial ?_
              exact WH.nilF rfl (LessW.mk' ⟨AVle.of rfl, AVle.of rfl, AVle.of rfl, AVle.of rfl, AVle.of rfl, AVle.of rfl, AVle.of rfl, trivial⟩ ⟨rfl, rfl, rfl, rfl, trivial⟩)
        · refine WH.alloc 109 tt_ok rfl rfl rfl rfl rfl rfl ?_
          refine WH.fork ?_ (WH.fork ?_ ?_)
          · refine WH.val tt_ok rfl rfl rfl rfl rfl trivial rfl rfl ?_
            refine WH.mv rfl rfl rfl rfl rfl rfl rfl rfl rfl ?_
            refine WH.fork ?_ ?_
            · refine WH.val tt_ok rfl rfl rfl rfl rfl trivial rfl rfl ?_
              refine WH.fork ?_ ?_
              · refine WH.val tt_ok rfl rfl rfl rfl rfl trivial rfl rfl ?_
                refine WH.eff 0 tt_ok et_ok rfl rfl rfl rfl trivial rfl rfl ?_
                refine WH.run 1 tt_ok rfl rfl rfl rfl trivial ?_
                exact WH.nilF rfl (LessW.mk' ⟨AVle.of rfl, AVle.of rfl, AVle.of rfl, AVle.of rfl, AVle.of rfl, AVle.of rfl, AVle.of rfl, trivial⟩ ⟨rfl, rfl, rfl, rfl, trivial⟩)
              · refine WH.eff 0 tt_ok et_ok rfl rfl rfl rfl trivial rfl rfl ?_
                refine WH.val tt_ok rfl rfl rfl rfl rfl trivial rfl rfl ?_
                refine WH.run 1 tt_ok rfl rfl rfl rfl trivial ?_
                exact WH.nilF rfl (LessW.mk' ⟨AVle.of rfl, AVle.of rfl, AVle.of rfl, AVle.of rfl, AVle.of rfl, AVle.of rfl, AVle.of rfl, trivial⟩ ⟨rfl, rfl, rfl, rfl, trivial⟩)
            · refine WH.val tt_ok rfl rfl rfl rfl rfl trivial rfl rfl ?_
              refine WH.val tt_ok rfl rfl rfl rfl rfl trivial rfl rfl ?_
              refine WH.eff 0 tt_ok et_ok rfl rfl rfl rfl trivial rfl rfl ?_
              refine WH.run 1 tt_ok rfl rfl rfl rfl trivial ?_
              exact WH.nilF rfl (LessW.mk' ⟨AVle.of rfl, AVle.of rfl, AVle.of rfl, AVle.of rfl, AVle.of rfl, AVle.of rfl, AVle.of rfl, trivial⟩ ⟨rfl, rfl, rfl, rfl, trivial⟩)
          · refine WH.val tt_ok rfl rfl rfl rfl rfl trivial rfl rfl ?_
            refine WH.fork ?_ ?_
            · refine WH.val tt_ok rfl rfl rfl rfl rfl trivial rfl rfl ?_
              refine WH.mv rfl rfl rfl rfl rfl rfl rfl rfl rfl ?_
              refine WH.fork ?_ ?_
              · refine WH.val tt_ok rfl rfl rfl rfl rfl trivial rfl rfl ?_
                refine WH.eff 0 tt_ok et_ok rfl rfl rfl rfl trivial rfl rfl ?_
                refine WH.run 1 tt_ok rfl rfl rfl rfl trivial ?_
                exact WH.nilF rfl (LessW.mk' ⟨AVle.of rfl, AVle.of rfl, AVle.of rfl, AVle.of rfl, AVle.of rfl, AVle.of rfl, AVle.of rfl, trivial⟩ ⟨rfl, rfl, rfl, rfl, trivial⟩)
              · refine WH.eff 0 tt_ok et_ok rfl rfl rfl rfl trivial rfl rfl ?_
                refine WH.val tt_ok rfl rfl rfl rfl rfl trivial rfl rfl ?_
                refine WH.run 1 tt_ok rfl rfl rfl rfl trivial ?_
                exact WH.nilF rfl (LessW.mk' ⟨AVle.of rfl, AVle.of rfl, AVle.of rfl, AVle.of rfl, AVle.of rfl, AVle.of rfl, AVle.of rfl, trivial⟩ ⟨rfl, rfl, rfl, rfl, trivial⟩)
            · refine WH.val tt_ok rfl rfl rfl rfl rfl trivial rfl rfl ?_
              refine WH.val tt_ok rfl rfl rfl rfl rfl trivial rfl rfl ?_
              refine WH.mv rfl rfl rfl rfl rfl rfl rfl rfl rfl ?_
              refine WH.eff 0 tt_ok et_ok rfl rfl rfl rfl trivial rfl rfl ?_
              refine WH.run 1 tt_ok rfl rfl rfl rfl trivial ?_
              exact WH.nilF rfl (LessW.mk' ⟨AVle.of rfl, AVle.of rfl, AVle.of rfl, AVle.of rfl, AVle.of rfl, AVle.of rfl, AVle.of rfl, trivial⟩ ⟨rfl, rfl, rfl, rfl, trivial⟩)
          · refine WH.val tt_ok rfl rfl rfl rfl rfl trivial rfl rfl ?_
            refine WH.fork ?_ ?_
            · refine WH.val tt_ok rfl rfl rfl rfl rfl trivial rfl rfl ?_
              refine WH.mv rfl rfl rfl rfl rfl rfl rfl rfl rfl ?_
              refine WH.val tt_ok rfl rfl rfl rfl rfl trivial rfl rfl ?_
              refine WH.eff 0 tt_ok et_ok rfl rfl rfl rfl trivial rfl rfl ?_
              refine WH.run 1 tt_ok rfl rfl rfl rfl trivial ?_
              exact WH.nilF rfl (LessW.mk' ⟨AVle.of rfl, AVle.of rfl, AVle.of rfl, AVle.of rfl, AVle.of rfl, AVle.of rfl, AVle.of rfl, trivial⟩ ⟨rfl, rfl, rfl, rfl, trivial⟩)
            · refine WH.val tt_ok rfl rfl rfl rfl rfl trivial rfl rfl ?_
              refine WH.val tt_ok rfl rfl rfl rfl rfl trivial rfl rfl ?_
              refine WH.mv rfl rfl rfl rfl rfl rfl rfl rfl rfl ?_
              refine WH.eff 0 tt_ok et_ok rfl rfl rfl rfl trivial rfl rfl ?_
              refine WH.run 1 tt_ok rfl rfl rfl rfl trivial ?_
              exact WH.nilF rfl (LessW.mk' ⟨AVle.of rfl, AVle.of rfl, AVle.of rfl, AVle.of rfl, AVle.of rfl, AVle.of rfl, AVle.of rfl, trivial⟩ ⟨rfl, rfl, rfl, rfl, trivial⟩)
      · refine WH.alloc 109 tt_ok rfl rfl rfl rfl rfl rfl ?_
        refine WH.call [] rfl (exec_Do_0 _ _ _ _ hx5_7_1) exec_Do_f rfl rfl trivial rfl rfl rfl rfl rfl ?_
        refine WH.mv rfl rfl rfl rfl rfl rfl rfl rfl rfl ?_
        refine WH.fork ?_ (WH.fork ?_ ?_)
        · refine WH.val tt_ok rfl rfl rfl rfl rfl trivial rfl rfl ?_
          refine WH.mv rfl rfl rfl rfl rfl rfl rfl rfl rfl ?_
          refine WH.fork ?_ ?_
          · refine WH.val tt_ok rfl rfl rfl rfl rfl trivial rfl rfl ?_
            refine WH.fork ?_ ?_
            · refine WH.val tt_ok rfl rfl rfl rfl rfl trivial rfl rfl ?_
              refine WH.eff 0 tt_ok et_ok rfl rfl rfl rfl trivial rfl rfl ?_
              refine WH.run 1 tt_ok rfl rfl rfl rfl trivial ?_
              exact WH.nilF rfl (LessW.mk' ⟨AVle.of rfl, AVle.of rfl, AVle.of rfl, AVle.of rfl, AVle.of rfl, AVle.of rfl, AVle.of rfl, trivial⟩ ⟨rfl, rfl, rfl, rfl, trivial⟩)
            · refine WH.eff 0 tt_ok et_ok rfl rfl rfl rfl trivial rfl rfl ?_
              refine WH.val tt_ok rfl rfl rfl rfl rfl trivial rfl rfl ?_
              refine WH.run 1 tt_ok rfl rfl rfl rfl trivial ?_
              exact WH.nilF rfl (LessW.mk' ⟨AVle.of rfl, AVle.of rfl, AVle.of rfl, AVle.of rfl, AVle.of rfl, AVle.of rfl, AVle.of rfl, trivial⟩ ⟨rfl, rfl, rfl, rfl, trivial⟩)
          · refine WH.val tt_ok rfl rfl rfl rfl rfl trivial rfl rfl ?_
            refine WH.val tt_ok rfl rfl rfl rfl rfl trivial rfl rfl ?_
            refine WH.eff 0 tt_ok et_ok rfl rfl rfl rfl trivial rfl rfl ?_
            refine WH.run 1 tt_ok rfl rfl rfl rfl trivial ?_
            exact WH.nilF rfl (LessW.mk' ⟨AVle.of rfl, AVle.of rfl, AVle.of rfl, AVle.of rfl, AVle.of rfl, AVle.of rfl, AVle.of rfl, trivial⟩ ⟨rfl, rfl, rfl, rfl, trivial⟩)
        · refine WH.val tt_ok rfl rfl rfl rfl rfl trivial rfl rfl ?_
          refine WH.fork ?_ ?_
          · refine WH.val tt_ok rfl rfl rfl rfl rfl trivial rfl rfl ?_
            refine WH.mv rfl rfl rfl rfl rfl rfl rfl rfl rfl ?_
            refine WH.fork ?_ ?_
            · refine WH.val tt_ok rfl rfl rfl rfl rfl trivial rfl rfl ?_
              refine WH.eff 0 tt_ok et_ok rfl rfl rfl rfl trivial rfl rfl ?_
              refine WH.run 1 tt_ok rfl rfl rfl rfl trivial ?_
              exact WH.nilF rfl (LessW.mk' ⟨AVle.of rfl, AVle.of rfl, AVle.of rfl, AVle.of rfl, AVle.of rfl, AVle.of rfl, AVle.of rfl, trivial⟩ ⟨rfl, rfl, rfl, rfl, trivial⟩)
            · refine WH.eff 0 tt_ok et_ok rfl rfl rfl rfl trivial rfl rfl ?_
              refine WH.val tt_ok rfl rfl rfl rfl rfl trivial rfl rfl ?_
              refine WH.run 1 tt_ok rfl rfl rfl rfl trivial ?_
              exact WH.nilF rfl (LessW.mk' ⟨AVle.of rfl, AVle.of rfl, AVle.of rfl, AVle.of rfl, AVle.of rfl, AVle.of rfl, AVle.of rfl, trivial⟩ ⟨rfl, rfl, rfl, rfl, trivial⟩)
          · refine WH.val tt_ok rfl rfl rfl rfl rfl trivial rfl rfl ?_
            refine WH.val tt_ok rfl rfl rfl rfl rfl trivial rfl rfl ?_
            refine WH.mv rfl rfl rfl rfl rfl rfl rfl rfl rfl ?_
            refine WH.eff 0 tt_ok et_ok rfl rfl rfl rfl trivial rfl rfl ?_
            refine WH.run 1 tt_ok rfl rfl rfl rfl trivial ?_
            exact WH.nilF rfl (LessW.mk' ⟨AVle.of rfl, AVle.of rfl, AVle.of rfl, AVle.of rfl, AVle.of rfl, AVle.of rfl, AVle.of rfl, trivial⟩ ⟨rfl, rfl, rfl, rfl, trivial⟩)
        · refine WH.val tt_ok rfl rfl rfl rfl rfl trivial rfl rfl ?_
          refine WH.fork ?_ ?_
          · refine WH.val tt_ok rfl rfl rfl rfl rfl trivial rfl rfl ?_
            refine WH.mv rfl rfl rfl rfl rfl rfl rfl rfl rfl ?_
            refine WH.val tt_ok rfl rfl rfl rfl rfl trivial rfl rfl ?_
            refine WH.eff 0 tt_ok et_ok rfl rfl rfl rfl trivial rfl rfl ?_
            refine WH.run 1 tt_ok rfl rfl rfl rfl trivial ?_
            exact WH.nilF rfl (LessW.mk' ⟨AVle.of rfl, AVle.of rfl, AVle.of rfl, AVle.of rfl, AVle.of rfl, AVle.of rfl, AVle.of rfl, trivial⟩ ⟨rfl, rfl, rfl, rfl, trivial⟩)
          · refine WH.val tt_ok rfl rfl rfl rfl rfl trivial rfl rfl ?_
            refine WH.val tt_ok rfl rfl rfl rfl rfl trivial rfl rfl ?_
            refine WH.mv rfl rfl rfl rfl rfl rfl rfl rfl rfl ?_
            refine WH.eff 0 tt_ok et_ok rfl rfl rfl rfl trivial rfl rfl ?_
            refine WH.run 1 tt_ok rfl rfl rfl rfl trivial ?_
            exact WH.nilF rfl (LessW.mk' ⟨AVle.of rfl, AVle.of rfl, AVle.of rfl, AVle.of rfl, AVle.of rfl, AVle.of rfl, AVle.of rfl, trivial⟩ ⟨rfl, rfl, rfl, rfl, trivial⟩)
    · refine WH.alloc 109 tt_ok rfl rfl rfl rfl rfl rfl ?_
      refine WH.call [] rfl (law10_Own_0 _ hx5_1_1) law10_Own_f rfl rfl trivial rfl rfl rfl rfl rfl ?_
      refine WH.call [] rfl (exec_Do_0 _ _ _ _ hx5_7_1) exec_Do_f rfl rfl trivial rfl rfl rfl rfl rfl ?_
      refine WH.mv rfl rfl rfl rfl rfl rfl rfl rfl rfl ?_
      refine WH.fork ?_ (WH.fork ?_ ?_)
      · refine WH.val tt_ok rfl rfl rfl rfl rfl trivial rfl rfl ?_
        refine WH.mv rfl rfl rfl rfl rfl rfl rfl rfl rfl ?_
        refine WH.fork ?_ ?_
        · refine WH.val tt_ok rfl rfl rfl rfl rfl trivial rfl rfl ?_
          refine WH.fork ?_ ?_
          · refine WH.val tt_ok rfl rfl rfl rfl rfl trivial rfl rfl ?_
            refine WH.eff 0 tt_ok et_ok rfl rfl rfl rfl trivial rfl rfl ?_
            refine WH.run 1 tt_ok rfl rfl rfl rfl trivial ?_
            exact WH.nilF rfl (LessW.mk' ⟨AVle.of rfl, AVle.of rfl, AVle.of rfl, AVle.of rfl, AVle.of rfl, AVle.of rfl, AVle.of rfl, trivial⟩ ⟨rfl, rfl, rfl, rfl, trivial⟩)
          · refine WH.eff 0 tt_ok et_ok rfl rfl rfl rfl trivial rfl rfl ?_
            refine WH.val tt_ok rfl rfl rfl rfl rfl trivial rfl rfl ?_
            refine WH.run 1 tt_ok rfl rfl rfl rfl trivial ?_
            exact WH.nilF rfl (LessW.mk' ⟨AVle.of rfl, AVle.of rfl, AVle.of rfl, AVle.of rfl, AVle.of rfl, AVle.of rfl, AVle.of rfl, trivial⟩ ⟨rfl, rfl, rfl, rfl, trivial⟩)
        · refine WH.val tt_ok rfl rfl rfl rfl rfl trivial rfl rfl ?_
          refine WH.val tt_ok rfl rfl rfl rfl rfl trivial rfl rfl ?_
          refine WH.eff 0 tt_ok et_ok rfl rfl rfl rfl trivial rfl rfl ?_
          refine WH.run 1 tt_ok rfl rfl rfl rfl trivial ?_
          exact WH.nilF rfl (LessW.mk' ⟨AVle.of rfl, AVle.of rfl, AVle.of rfl, AVle.of rfl, AVle.of rfl, AVle.of rfl, AVle.of rfl, trivial⟩ ⟨rfl, rfl, rfl, rfl, trivial⟩)
      · refine WH.val tt_ok rfl rfl rfl rfl rfl trivial rfl rfl ?_
        refine WH.fork ?_ ?_
        · refine WH.val tt_ok rfl rfl rfl rfl rfl trivial rfl rfl ?_
          refine WH.mv rfl rfl rfl rfl rfl rfl rfl rfl rfl ?_
          refine WH.fork ?_ ?_
          · refine WH.val tt_ok rfl rfl rfl rfl rfl trivial rfl rfl ?_
            refine WH.eff 0 tt_ok et_ok rfl rfl rfl rfl trivial rfl rfl ?_
            refine WH.run 1 tt_ok rfl rfl rfl rfl trivial ?_
            exact WH.nilF rfl (LessW.mk' ⟨AVle.of rfl, AVle.of rfl, AVle.of rfl, AVle.of rfl, AVle.of rfl, AVle.of rfl, AVle.of rfl, trivial⟩ ⟨rfl, rfl, rfl, rfl, trivial⟩)
          · refine WH.eff 0 tt_ok et_ok rfl rfl rfl rfl trivial rfl rfl ?_
            refine WH.val tt_ok rfl rfl rfl rfl rfl trivial rfl rfl ?_
            refine WH.run 1 tt_ok rfl rfl rfl rfl trivial ?_
            exact WH.nilF rfl (LessW.mk' ⟨AVle.of rfl, AVle.of rfl, AVle.of rfl, AVle.of rfl, AVle.of rfl, AVle.of rfl, AVle.of rfl, trivial⟩ ⟨rfl, rfl, rfl, rfl, trivial⟩)
        · refine WH.val tt_ok rfl rfl rfl rfl rfl trivial rfl rfl ?_
          refine WH.val tt_ok rfl rfl rfl rfl rfl trivial rfl rfl ?_
          refine WH.mv rfl rfl rfl rfl rfl rfl rfl rfl rfl ?_
          refine WH.eff 0 tt_ok et_ok rfl rfl rfl rfl trivial rfl rfl ?_
          refine WH.run 1 tt_ok rfl rfl rfl rfl trivial ?_
          exact WH.nilF rfl (LessW.mk' ⟨AVle.of rfl, AVle.of rfl, AVle.of rfl, AVle.of rfl, AVle.of rfl, AVle.of rfl, AVle.of rfl, trivial⟩ ⟨rfl, rfl, rfl, rfl, trivial⟩)
      · refine WH.val tt_ok rfl rfl rfl rfl rfl trivial rfl rfl ?_
        refine WH.fork ?_ ?_
        · refine WH.val tt_ok rfl rfl rfl rfl rfl trivial rfl rfl ?_
          refine WH.mv rfl rfl rfl rfl rfl rfl rfl rfl rfl ?_
          refine WH.val tt_ok rfl rfl rfl rfl rfl trivial rfl rfl ?_
          refine WH.eff 0 tt_ok et_ok rfl rfl rfl rfl trivial rfl rfl ?_
          refine WH.run 1 tt_ok rfl rfl rfl rfl trivial ?_
          exact WH.nilF rfl (LessW.mk' ⟨AVle.of rfl, AVle.of rfl, AVle.of rfl, AVle.of rfl, AVle.of rfl, AVle.of rfl, AVle.of rfl, trivial⟩ ⟨rfl, rfl, rfl, rfl, trivial⟩)
        · refine WH.val tt_ok rfl rfl rfl rfl rfl trivial rfl rfl ?_
          refine WH.val tt_ok rfl rfl rfl rfl rfl trivial rfl rfl ?_
          refine WH.mv rfl rfl rfl rfl rfl rfl rfl rfl rfl ?_
          refine WH.eff 0 tt_ok et_ok rfl rfl rfl rfl trivial rfl rfl ?_
          refine WH.run 1 tt_ok rfl rfl rfl rfl trivial ?_
          exact WH.nilF rfl (LessW.mk' ⟨AVle.of rfl, AVle.of rfl, AVle.of rfl, AVle.of rfl, AVle.of rfl, AVle.of rfl, AVle.of rfl, trivial⟩ ⟨rfl, rfl, rfl, rfl, trivial⟩)
  · refine QT.n ?_
    refine WC.seq ?_
    refine WC.region ?_
    refine WL.run 6 tt_ok sg0 rfl rfl trivial ?_
    refine WL.freezeT 123 enc_api_Frame (([] : List T_api_Frame) ++ x1.1) rfl rfl rfl rfl ?_
    obtain ⟨x5, hx5, H⟩ := of_bind H
    refine WL.call [] (ref15_Do_0 _ _ _ _ hx5) ref15_Do_f rfl rfl trivial rfl rfl rfl ?_
    refine WL.run 4 tt_ok sg0 rfl rfl trivial ?_
    refine WL.alloc 112 tt_ok rfl rfl rfl ?_
    refine WL.run 1 tt_ok sg0 rfl rfl trivial ?_
    refine WL.eff 0 tt_ok et_ok eg0 rfl rfl rfl trivial ?_
    refine WL.run 1 tt_ok sg0 rfl rfl trivial ?_
    refine WL.nil ?_
    refine QT.n ?_
    refine WC.seq ?_
    refine WC.region ?_
    refine WL.run 2 tt_ok sg0 rfl rfl trivial ?_
    obtain ⟨x6, hx6, H⟩ := of_bind H
    refine WL.call [] (ref14_Same_0 _ _ hx6) ref14_Same_f rfl rfl trivial rfl rfl rfl ?_
    refine WL.run 1 tt_ok sg0 rfl rfl trivial ?_
    refine WL.split (g := 52) rfl (fun h7 => ?_) (fun h7 => ?_)
    · replace H := of_t H h7
      refine WL.grun 2 3 true 52 tt_ok sg0 rfl rfl rfl rfl trivial ?_
      refine WL.gyv (LJ.Y.structEqA .eql 8 (.inl rfl) rfl rfl rfl (by kernel_rfl) rfl rfl rfl) rfl rfl rfl rfl rfl rfl ?_
      refine WL.pickT rfl rfl rfl rfl rfl rfl ?_
      refine WL.run 1 tt_ok sg0 rfl rfl trivial ?_
      refine WL.sect 3 8 true tt_ok sg0 rfl rfl (fun _ => trivial) ?_
      refine WL.run 2 tt_ok sg0 rfl rfl ⟨by first | exact id | exact fun h => by rw [h]; rfl | simp_all, trivial⟩ ?_
      obtain ⟨x8, hx8, H⟩ := of_bind H
      refine WL.sect 3 13 true tt_ok [PSig.at' ref14_Same_f ((((iEq x5_7_1.2.1.Op x5.2.1.Op) && ((iEq x5_7_1.2.1.A x5.2.1.A) && ((iEq x5_7_1.2.1.B x5.2.1.B) && ((iEq (x5_7_1.2.1.X.getD 0 default) (x5.2.1.X.getD 0 default)) && ((iEq (x5_7_1.2.1.X.getD 1 default) (x5.2.1.X.getD 1 default)) && ((iEq (x5_7_1.2.1.X.getD 2 default) (x5.2.1.X.getD 2 default)) && ((iEq (x5_7_1.2.1.X.getD 3 default) (x5.2.1.X.getD 3 default)) && ((iEq (x5_7_1.2.1.X.getD 4 default) (x5.2.1.X.getD 4 default)) && true)))))))) && (iEq x5_7_1.2.2 x5.2.2)) = true) rfl (fun hb => ref14_Same_0 _ _ (of_t hx8 hb))] rfl rfl (fun hb => ⟨⟨hb, rfl⟩, trivial⟩) ?_
      refine WL.run 2 tt_ok sg0 rfl rfl ⟨by first | exact id | exact fun h => by rw [h]; rfl | simp_all, trivial⟩ ?_
      obtain ⟨x9, hx9, H⟩ := of_bind H
      refine WL.sect 1 18 true tt_ok [PSig.at' law15_lives_f (((((iEq x5_7_1.2.1.Op x5.2.1.Op) && ((iEq x5_7_1.2.1.A x5.2.1.A) && ((iEq x5_7_1.2.1.B x5.2.1.B) && ((iEq (x5_7_1.2.1.X.getD 0 default) (x5.2.1.X.getD 0 default)) && ((iEq (x5_7_1.2.1.X.getD 1 default) (x5.2.1.X.getD 1 default)) && ((iEq (x5_7_1.2.1.X.getD 2 default) (x5.2.1.X.getD 2 default)) && ((iEq (x5_7_1.2.1.X.getD 3 default) (x5.2.1.X.getD 3 default)) && ((iEq (x5_7_1.2.1.X.getD 4 default) (x5.2.1.X.getD 4 default)) && true)))))))) && (iEq x5_7_1.2.2 x5.2.2)) && x8) = true) rfl (fun hb => law15_lives_0  (of_t hx9 hb))] rfl rfl (fun hb => ⟨⟨hb, rfl⟩, trivial⟩) ?_
      refine WL.run 2 tt_ok sg0 rfl rfl ⟨by first | exact id | exact fun h => by rw [h]; rfl | simp_all, trivial⟩ ?_
      refine WL.nil ?_
      refine QT.n ?_
      refine WC.ret ?_
      cases H
      exact Ends.auto rfl rfl rfl trivial
    · replace H := of_f H h7
      refine WL.gskips 3 3 true 52 rfl rfl rfl rfl ?_
      refine WL.pickF rfl rfl rfl rfl rfl rfl ?_
      refine WL.run 1 tt_ok sg0 rfl rfl trivial ?_
      refine WL.gskips 3 8 true 57 rfl rfl rfl rfl ?_
      refine WL.pickF rfl rfl rfl rfl rfl rfl ?_
      refine WL.run 1 tt_ok sg0 rfl rfl trivial ?_
      refine WL.gskips 3 13 true 62 rfl rfl rfl rfl ?_
      refine WL.pickF rfl rfl rfl rfl rfl rfl ?_
      refine WL.run 1 tt_ok sg0 rfl rfl trivial ?_
      refine WL.gskips 1 18 true 67 rfl rfl rfl rfl ?_
      refine WL.pickF rfl rfl rfl rfl rfl rfl ?_
      refine WL.run 1 tt_ok sg0 rfl rfl trivial ?_
      refine WL.nil ?_
      refine QT.n ?_
      refine WC.ret ?_
      cases H
      exact Ends.auto rfl rfl rfl trivial

/-! ### logjam/logjamlaw15.ExecGoes -/
theorem law15_ExecGoes_0 (a0 : T_api_Program) (a1 : T_law15_Start) {r : Bool} (H : law15_ExecGoes a0 a1 = some r) : LJ.Spec Try.prog 4 [.d (.agg [slT enc_api_Decl a0.Decls, slT enc_sl_sl_api_Need a0.Waits, slT enc_api_Func a0.Funcs]), .d (.agg [.int .i64 a1.Fn, slT enc_i64 a1.Args, .int .i64 a1.Steps, .int .i64 a1.Self, .int .i64 a1.Now])] [] (.d (.bool r)) [] := by
  refine LJ.Spec.code Try.func4 rfl 120 rfl rfl [] rfl fun w0 F0 S0 B0 => ?_
  unfold law15_ExecGoes at H
  refine WC.seq ?_
  refine WC.region ?_
  refine WL.eff 102 tt_ok et_ok eg0 rfl rfl rfl trivial ?_
  refine WL.eff 103 tt_ok et_ok eg0 rfl rfl rfl trivial ?_
  refine WL.run 1 tt_ok sg0 rfl rfl trivial ?_
  refine WL.nil ?_
  refine QT.n ?_
  refine WC.seq ?_
  refine WC.region ?_
  refine WL.run 2 tt_ok sg0 rfl rfl trivial ?_
  obtain ⟨x1, hx1, H⟩ := of_bind H
  refine WL.call [] (law15_begun_0 _ _ hx1) law15_begun_f rfl rfl trivial rfl rfl rfl ?_
  refine WL.run 5 tt_ok sg0 rfl rfl trivial ?_
  refine WL.nil ?_
  refine QT.n ?_
  refine WC.seq ?_
  refine WC.seq ?_
  refine WC.region ?_
  refine WL.run 2 tt_ok sg0 rfl rfl trivial ?_
  refine WL.nil ?_
  refine QT.n ?_
  refine WC.cond rfl (fun h2 => ?_) (fun h2 => ?_)
  · replace H := of_t H h2
    refine WC.seq ?_
    refine WC.region ?_
    obtain ⟨x3, hx3, H⟩ := of_bind H
    refine WL.call [] (law15_lives_0 hx3) law15_lives_f rfl rfl trivial rfl rfl rfl ?_
    refine WL.run 1 tt_ok sg0 rfl rfl trivial ?_
    refine WL.nil ?_
    refine QT.n ?_
    refine WC.ret ?_
    refine QT.r ?_
    cases H
    exact Ends.auto rfl rfl rfl trivial
  replace H := of_f H h2
  refine WC.skip ?_
  refine QT.n ?_
  refine WC.seq ?_
  obtain ⟨x4_1_1, hx4_1_1, H⟩ := of_bind H
  obtain ⟨x4_7_1, hx4_7_1, H⟩ := of_bind H
  refine WC.heldF [(2, .ptr 102 0), (5, .d (slT enc_api_Frame x1.1)), (7, .d (slT enc_api_Frame x4_7_1.1)), (8, .ptr 108 0), (9, .d (.int .i64 x4_7_1.2.2))] [(102, .box 26 [.d (slT enc_api_Decl a0.Decls), .d (slT enc_sl_sl_api_Need a0.Waits), .d (slT enc_api_Func a0.Funcs)]), (108, .box 36 [.d (.int .i64 x4_7_1.2.1.Op), .d (.int .i64 x4_7_1.2.1.A), .d (.int .i64 x4_7_1.2.1.B), .d (.int .i64 (x4_7_1.2.1.X.getD 0 default)), .d (.int .i64 (x4_7_1.2.1.X.getD 1 default)), .d (.int .i64 (x4_7_1.2.1.X.getD 2 default)), .d (.int .i64 (x4_7_1.2.1.X.getD 3 default)), .d (.int .i64 (x4_7_1.2.1.X.getD 4 default))])] (.one 0 true (.one 2 true (.one 3 true (.one 4 true (.one 5 true (.one 6 true (.fork (.one 1 false (.fork (.one 7 false (.one 8 true (.fork (.one 9 false (.fork (.one 10 false (.fork (.one 11 false (.one 12 false (.one 13 true (.one 14 false (.one 15 true .done))))) (.one 12 false (.one 13 true (.fork (.one 11 false (.one 14 false (.one 15 true .done))) (.one 14 false (.one 11 false (.one 15 true .done)))))))) (.fork (.one 11 false (.fork (.one 10 false (.one 12 false (.one 13 true (.one 14 false (.one 15 true .done))))) (.one 12 false (.one 13 true (.one 10 false (.one 14 false (.one 15 true .done))))))) (.one 12 false (.one 13 true (.fork (.one 10 false (.fork (.one 11 false (.one 14 false (.one 15 true .done))) (.one 14 false (.one 11 false (.one 15 true .done))))) (.one 11 false (.one 10 false (.one 14 false (.one 15 true .done)))))))))) (.fork (.one 10 false (.fork (.one 9 false (.fork (.one 11 false (.one 12 false (.one 13 true (.one 14 false (.one 15 true .done))))) (.one 12 false (.one 13 true (.fork (.one 11 false (.one 14 false (.one 15 true .done))) (.one 14 false (.one 11 false (.one 15 true .done)))))))) (.fork (.one 11 false (.fork (.one 9 false (.one 12 false (.one 13 true (.one 14 false (.one 15 true .done))))) (.one 12 false (.one 9 false (.one 13 true (.one 14 false (.one 15 true .done))))))) (.one 12 false (.fork (.one 9 false (.one 13 true (.fork (.one 11 false (.one 14 false (.one 15 true .done))) (.one 14 false (.one 11 false (.one 15 true .done)))))) (.one 11 false (.one 9 false (.one 13 true (.one 14 false (.one 15 true .done)))))))))) (.fork (.one 11 false (.fork (.one 9 false (.fork (.one 10 false (.one 12 false (.one 13 true (.one 14 false (.one 15 true .done))))) (.one 12 false (.one 13 true (.one 10 false (.one 14 false (.one 15 true .done))))))) (.fork (.one 10 false (.fork (.one 9 false (.one 12 false (.one 13 true (.one 14 false (.one 15 true .done))))) (.one 12 false (.one 9 false (.one 13 true (.one 14 false (.one 15 true .done))))))) (.one 12 false (.fork (.one 9 false (.one 13 true (.one 10 false (.one 14 false (.one 15 true .done))))) (.one 10 false (.one 9 false (.one 13 true (.one 14 false (.one 15 true .done)))))))))) (.one 12 false (.fork (.one 9 false (.one 13 true (.fork (.one 10 false (.fork (.one 11 false (.one 14 false (.one 15 true .done))) (.one 14 false (.one 11 false (.one 15 true .done))))) (.one 11 false (.one 10 false (.one 14 false (.one 15 true .done))))))) (.fork (.one 10 false (.fork (.one 9 false (.one 13 true (.fork (.one 11 false (.one 14 false (.one 15 true .done))) (.one 14 false (.one 11 false (.one 15 true .done)))))) (.one 11 false (.one 9 false (.one 13 true (.one 14 false (.one 15 true .done))))))) (.one 11 false (.fork (.one 9 false (.one 13 true (.one 10 false (.one 14 false (.one 15 true .done))))) (.one 10 false (.one 9 false (.one 13 true (.one 14 false (.one 15 true .done))))))))))))))) (.one 12 false (.one 7 false (.one 8 true (.fork (.one 9 false (.one 13 true (.fork (.one 10 false (.fork (.one 11 false (.one 14 false (.one 15 true .done))) (.one 14 false (.one 11 false (.one 15 true .done))))) (.one 11 false (.one 10 false (.one 14 false (.one 15 true .done))))))) (.fork (.one 10 false (.fork (.one 9 false (.one 13 true (.fork (.one 11 false (.one 14 false (.one 15 true .done))) (.one 14 false (.one 11 false (.one 15 true .done)))))) (.one 11 false (.one 9 false (.one 13 true (.one 14 false (.one 15 true .done))))))) (.one 11 false (.fork (.one 9 false (.one 13 true (.one 10 false (.one 14 false (.one 15 true .done))))) (.one 10 false (.one 9 false (.one 13 true (.one 14 false (.one 15 true .done)))))))))))))) (.one 12 false (.one 1 false (.one 7 false (.one 8 true (.fork (.one 9 false (.one 13 true (.fork (.one 10 false (.fork (.one 11 false (.one 14 false (.one 15 true .done))) (.one 14 false (.one 11 false (.one 15 true .done))))) (.one 11 false (.one 10 false (.one 14 false (.one 15 true .done))))))) (.fork (.one 10 false (.fork (.one 9 false (.one 13 true (.fork (.one 11 false (.one 14 false (.one 15 true .done))) (.one 14 false (.one 11 false (.one 15 true .done)))))) (.one 11 false (.one 9 false (.one 13 true (.one 14 false (.one 15 true .done))))))) (.one 11 false (.fork (.one 9 false (.one 13 true (.one 10 false (.one 14 false (.one 15 true .done))))) (.one 10 false (.one 9 false (.one 13 true (.one 14 false (.one 15 true .done)))))))))))))))))))) [102, 103] [102, 103] rfl (by kernel_rfl) rfl (by kernel_rfl) rfl rfl (fun _ h => h) rfl rfl rfl (fun FK NK wK K => ?_) ?_
  · refine WH.run 6 tt_ok rfl rfl rfl rfl trivial ?_
    refine WH.fork ?_ ?_
    · refine WH.call [] rfl (law10_Own_0 _ hx4_1_1) law10_Own_f rfl rfl trivial rfl rfl rfl rfl rfl ?_
      refine WH.fork ?_ ?_
      · refine WH.call [] rfl (exec_Do_0 _ _ _ _ hx4_7_1) exec_Do_f rfl rfl trivial rfl rfl rfl rfl rfl ?_
        refine WH.mv rfl rfl rfl rfl rfl rfl rfl rfl rfl ?_
        refine WH.fork ?_ (WH.fork ?_ (WH.fork ?_ ?_))
        · refine WH.val tt_ok rfl rfl rfl rfl rfl trivial rfl rfl ?_
          refine WH.fork ?_ (WH.fork ?_ ?_)
          · refine WH.val tt_ok rfl rfl rfl rfl rfl trivial rfl rfl ?_
            refine WH.fork ?_ ?_
            · refine WH.val tt_ok rfl rfl rfl rfl rfl trivial rfl rfl ?_
              refine WH.alloc 108 tt_ok rfl rfl rfl rfl rfl rfl ?_
              refine WH.mv rfl rfl rfl rfl rfl rfl rfl rfl rfl ?_
              refine WH.eff 0 tt_ok et_ok rfl rfl rfl rfl trivial rfl rfl ?_
              refine WH.run 1 tt_ok rfl rfl rfl rfl trivial ?_
              exact WH.nilF rfl (LessW.mk' ⟨AVle.of rfl, AVle.of rfl, AVle.of rfl, AVle.of rfl, AVle.of rfl, trivial⟩ ⟨rfl, rfl, trivial⟩)
            · refine WH.alloc 108 tt_ok rfl rfl rfl rfl rfl rfl ?_
              refine WH.mv rfl rfl rfl rfl rfl rfl rfl rfl rfl ?_
              refine WH.fork ?_ ?_
              · refine WH.val tt_ok rfl rfl rfl rfl rfl trivial rfl rfl ?_
                refine WH.eff 0 tt_ok et_ok rfl rfl rfl rfl trivial rfl rfl ?_
                refine WH.run 1 tt_ok rfl rfl rfl rfl trivial ?_
                exact WH.nilF rfl (LessW.mk' ⟨AVle.of rfl, AVle.of rfl, AVle.of rfl, AVle.of rfl, AVle.of rfl, trivial⟩ ⟨rfl, rfl, trivial⟩)
              · refine WH.eff 0 tt_ok et_ok rfl rfl rfl rfl trivial rfl rfl ?_
                refine WH.val tt_ok rfl rfl rfl rfl rfl trivial rfl rfl ?_
                refine WH.run 1 tt_ok rfl rfl rfl rfl trivial ?_
                exact WH.nilF rfl (LessW.mk' ⟨AVle.of rfl, AVle.of rfl, AVle.of rfl, AVle.of rfl, AVle.of rfl, trivial⟩ ⟨rfl, rfl, trivial⟩)
          · refine WH.val tt_ok rfl rfl rfl rfl rfl trivial rfl rfl ?_
            refine WH.fork ?_ ?_
            · refine WH.val tt_ok rfl rfl rfl rfl rfl trivial rfl rfl ?_
              refine WH.alloc 108 tt_ok rfl rfl rfl rfl rfl rfl ?_
              refine WH.mv rfl rfl rfl rfl rfl rfl rfl rfl rfl ?_
              refine WH.eff 0 tt_ok et_ok rfl rfl rfl rfl trivial rfl rfl ?_
              refine WH.run 1 tt_ok rfl rfl rfl rfl trivial ?_
              exact WH.nilF rfl (LessW.mk' ⟨AVle.of rfl, AVle.of rfl, AVle.of rfl, AVle.of rfl, AVle.of rfl, trivial⟩ ⟨rfl, rfl, trivial⟩)
            · refine WH.alloc 108 tt_ok rfl rfl rfl rfl rfl rfl ?_
              refine WH.mv rfl rfl rfl rfl rfl rfl rfl rfl rfl ?_
              refine WH.val tt_ok rfl rfl rfl rfl rfl trivial rfl rfl ?_
              refine WH.eff 0 tt_ok et_ok rfl rfl rfl rfl trivial rfl rfl ?_
              refine WH.run 1 tt_ok rfl rfl rfl rfl trivial ?_
              exact WH.nilF rfl (LessW.mk' ⟨AVle.of rfl, AVle.of rfl, AVle.of rfl, AVle.of rfl, AVle.of rfl, trivial⟩ ⟨rfl, rfl, trivial⟩)
          · refine WH.alloc 108 tt_ok rfl rfl rfl rfl rfl rfl ?_
            refine WH.mv rfl rfl rfl rfl rfl rfl rfl rfl rfl ?_
            refine WH.fork ?_ ?_
            · refine WH.val tt_ok rfl rfl rfl rfl rfl trivial rfl rfl ?_
              refine WH.fork ?_ ?_
              · refine WH.val tt_ok rfl rfl rfl rfl rfl trivial rfl rfl ?_
                refine WH.eff 0 tt_ok et_ok rfl rfl rfl rfl trivial rfl rfl ?_
                refine WH.run 1 tt_ok rfl rfl rfl rfl trivial ?_
                exact WH.nilF rfl (LessW.mk' ⟨AVle.of rfl, AVle.of rfl, AVle.of rfl, AVle.of rfl, AVle.of rfl, trivial⟩ ⟨rfl, rfl, trivial⟩)
              · refine WH.eff 0 tt_ok et_ok rfl rfl rfl rfl trivial rfl rfl ?_
                refine WH.val tt_ok rfl rfl rfl rfl rfl trivial rfl rfl ?_
                refine WH.run 1 tt_ok rfl rfl rfl rfl trivial ?_
                exact WH.nilF rfl (LessW.mk' ⟨AVle.of rfl, AVle.of rfl, AVle.of rfl, AVle.of rfl, AVle.of rfl, trivial⟩ ⟨rfl, rfl, trivial⟩)
            · refine WH.val tt_ok rfl rfl rfl rfl rfl trivial rfl rfl ?_
              refine WH.val tt_ok rfl rfl rfl rfl rfl trivial rfl rfl ?_
              refine WH.eff 0 tt_ok et_ok rfl rfl rfl rfl trivial rfl rfl ?_
              refine WH.run 1 tt_ok rfl rfl rfl rfl trivial ?_
              exact WH.nilF rfl (LessW.mk' ⟨AVle.of rfl, AVle.of rfl, AVle.of rfl, AVle.of rfl, AVle.of rfl, trivial⟩ ⟨rfl, rfl, trivial⟩)
        · refine WH.val tt_ok rfl rfl rfl rfl rfl trivial rfl rfl ?_
          refine WH.fork ?_ (WH.fork ?_ ?_)
          · refine WH.val tt_ok rfl rfl rfl rfl rfl trivial rfl rfl ?_
            refine WH.fork ?_ ?_
            · refine WH.val tt_ok rfl rfl rfl rfl rfl trivial rfl rfl ?_
              refine WH.alloc 108 tt_ok rfl rfl rfl rfl rfl rfl ?_
              refine WH.mv rfl rfl rfl rfl rfl rfl rfl rfl rfl ?_
              refine WH.eff 0 tt_ok et_ok rfl rfl rfl rfl trivial rfl rfl ?_
              refine WH.run 1 tt_ok rfl rfl rfl rfl trivial ?_
              exact WH.nilF rfl (LessW.mk' ⟨AVle.of rfl, AVle.of rfl, AVle.of rfl, AVle.of rfl, AVle.of rfl, trivial⟩ ⟨rfl, rfl, trivial⟩)
            · refine WH.alloc 108 tt_ok rfl rfl rfl rfl rfl rfl ?_
              refine WH.mv rfl rfl rfl rfl rfl rfl rfl rfl rfl ?_
              refine WH.fork ?_ ?_
              · refine WH.val tt_ok rfl rfl rfl rfl rfl trivial rfl rfl ?_
                refine WH.eff 0 tt_ok et_ok rfl rfl rfl rfl trivial rfl rfl ?_
                refine WH.run 1 tt_ok rfl rfl rfl rfl trivial ?_
                exact WH.nilF rfl (LessW.mk' ⟨AVle.of rfl, AVle.of rfl, AVle.of rfl, AVle.of rfl, AVle.of rfl, trivial⟩ ⟨rfl, rfl, trivial⟩)
              · refine WH.eff 0 tt_ok et_ok rfl rfl rfl rfl trivial rfl rfl ?_
                refine WH.val tt_ok rfl rfl rfl rfl rfl trivial rfl rfl ?_
                refine WH.run 1 tt_ok rfl rfl rfl rfl trivial ?_
                exact WH.nilF rfl (LessW.mk' ⟨AVle.of rfl, AVle.of rfl, AVle.of rfl, AVle.of rfl, AVle.of rfl, trivial⟩ ⟨rfl, rfl, trivial⟩)
          · refine WH.val tt_ok rfl rfl rfl rfl rfl trivial rfl rfl ?_
            refine WH.fork ?_ ?_
            · refine WH.val tt_ok rfl rfl rfl rfl rfl trivial rfl rfl ?_
              refine WH.alloc 108 tt_ok rfl rfl rfl rfl rfl rfl ?_
              refine WH.mv rfl rfl rfl rfl rfl rfl rfl rfl rfl ?_
              refine WH.eff 0 tt_ok et_ok rfl rfl rfl rfl trivial rfl rfl ?_
              refine WH.run 1 tt_ok rfl rfl rfl rfl trivial ?_
              exact WH.nilF rfl (LessW.mk' ⟨AVle.of rfl, AVle.of rfl, AVle.of rfl, AVle.of rfl, AVle.of rfl, trivial⟩ ⟨rfl, rfl, trivial⟩)
            · refine WH.alloc 108 tt_ok rfl rfl rfl rfl rfl rfl ?_
              refine WH.val tt_ok rfl rfl rfl rfl rfl trivial rfl rfl ?_
              refine WH.mv rfl rfl rfl rfl rfl rfl rfl rfl rfl ?_
              refine WH.eff 0 tt_ok et_ok rfl rfl rfl rfl trivial rfl rfl ?_
              refine WH.run 1 tt_ok rfl rfl rfl rfl trivial ?_
              exact WH.nilF rfl (LessW.mk' ⟨AVle.of rfl, AVle.of rfl, AVle.of rfl, AVle.of rfl, AVle.of rfl, trivial⟩ ⟨rfl, rfl, trivial⟩)
          · refine WH.alloc 108 tt_ok rfl rfl rfl rfl rfl rfl ?_
            refine WH.fork ?_ ?_
            · refine WH.val tt_ok rfl rfl rfl rfl rfl trivial rfl rfl ?_
              refine WH.mv rfl rfl rfl rfl rfl rfl rfl rfl rfl ?_
              refine WH.fork ?_ ?_
              · refine WH.val tt_ok rfl rfl rfl rfl rfl trivial rfl rfl ?_
                refine WH.eff 0 tt_ok et_ok rfl rfl rfl rfl trivial rfl rfl ?_
                refine WH.run 1 tt_ok rfl rfl rfl rfl trivial ?_
                exact WH.nilF rfl (LessW.mk' ⟨AVle.of rfl, AVle.of rfl, AVle.of rfl, AVle.of rfl, AVle.of rfl, trivial⟩ ⟨rfl, rfl, trivial⟩)
              · refine WH.eff 0 tt_ok et_ok rfl rfl rfl rfl trivial rfl rfl ?_
                refine WH.val tt_ok rfl rfl rfl rfl rfl trivial rfl rfl ?_
                refine WH.run 1 tt_ok rfl rfl rfl rfl trivial ?_
                exact WH.nilF rfl (LessW.mk' ⟨AVle.of rfl, AVle.of rfl, AVle.of rfl, AVle.of rfl, AVle.of rfl, trivial⟩ ⟨rfl, rfl, trivial⟩)
            · refine WH.val tt_ok rfl rfl rfl rfl rfl trivial rfl rfl ?_
              refine WH.val tt_ok rfl rfl rfl rfl rfl trivial rfl rfl ?_
              refine WH.mv rfl rfl rfl rfl rfl rfl rfl rfl rfl ?_
              refine WH.eff 0 tt_ok et_ok rfl rfl rfl rfl trivial rfl rfl ?_
              refine WH.run 1 tt_ok rfl rfl rfl rfl trivial ?_
              exact WH.nilF rfl (LessW.mk' ⟨AVle.of rfl, AVle.of rfl, AVle.of rfl, AVle.of rfl, AVle.of rfl, trivial⟩ ⟨rfl, rfl, trivial⟩)
        · refine WH.val tt_ok rfl rfl rfl rfl rfl trivial rfl rfl ?_
          refine WH.fork ?_ (WH.fork ?_ ?_)
          · refine WH.val tt_ok rfl rfl rfl rfl rfl trivial rfl rfl ?_
            refine WH.fork ?_ ?_
            · refine WH.val tt_ok rfl rfl rfl rfl rfl trivial rfl rfl ?_
              refine WH.alloc 108 tt_ok rfl rfl rfl rfl rfl rfl ?_
              refine WH.mv rfl rfl rfl rfl rfl rfl rfl rfl rfl ?_
              refine WH.eff 0 tt_ok et_ok rfl rfl rfl rfl trivial rfl rfl ?_
              refine WH.run 1 tt_ok rfl rfl rfl rfl trivial ?_
              exact WH.nilF rfl (LessW.mk' ⟨AVle.of rfl, AVle.of rfl, AVle.of rfl, AVle.of rfl, AVle.of rfl, trivial⟩ ⟨rfl, rfl, trivial⟩)
            · refine WH.alloc 108 tt_ok rfl rfl rfl rfl rfl rfl ?_
              refine WH.mv rfl rfl rfl rfl rfl rfl rfl rfl rfl ?_
              refine WH.val tt_ok rfl rfl rfl rfl rfl trivial rfl rfl ?_
              refine WH.eff 0 tt_ok et_ok rfl rfl rfl rfl trivial rfl rfl ?_
              refine WH.run 1 tt_ok rfl rfl rfl rfl trivial ?_
              exact WH.nilF rfl (LessW.mk' ⟨AVle.of rfl, AVle.of rfl, AVle.of rfl, AVle.of rfl, AVle.of rfl, trivial⟩ ⟨rfl, rfl, trivial⟩)
          · refine WH.val tt_ok rfl rfl rfl rfl rfl trivial rfl rfl ?_
            refine WH.fork ?_ ?_
            · refine WH.val tt_ok rfl rfl rfl rfl rfl trivial rfl rfl ?_
              refine WH.alloc 108 tt_ok rfl rfl rfl rfl rfl rfl ?_
              refine WH.mv rfl rfl rfl rfl rfl rfl rfl rfl rfl ?_
              refine WH.eff 0 tt_ok et_ok rfl rfl rfl rfl trivial rfl rfl ?_
              refine WH.run 1 tt_ok rfl rfl rfl rfl trivial ?_
              exact WH.nilF rfl (LessW.mk' ⟨AVle.of rfl, AVle.of rfl, AVle.of rfl, AVle.of rfl, AVle.of rfl, trivial⟩ ⟨rfl, rfl, trivial⟩)
            · refine WH.alloc 108 tt_ok rfl rfl rfl rfl rfl rfl ?_
              refine WH.val tt_ok rfl rfl rfl rfl rfl trivial rfl rfl ?_
              refine WH.mv rfl rfl rfl rfl rfl rfl rfl rfl rfl ?_
              refine WH.eff 0 tt_ok et_ok rfl rfl rfl rfl trivial rfl rfl ?_
              refine WH.run 1 tt_ok rfl rfl rfl rfl trivial ?_
              exact WH.nilF rfl (LessW.mk' ⟨AVle.of rfl, AVle.of rfl, AVle.of rfl, AVle.of rfl, AVle.of rfl, trivial⟩ ⟨rfl, rfl, trivial⟩)
          · refine WH.alloc 108 tt_ok rfl rfl rfl rfl rfl rfl ?_
            refine WH.fork ?_ ?_
            · refine WH.val tt_ok rfl rfl rfl rfl rfl trivial rfl rfl ?_
              refine WH.mv rfl rfl rfl rfl rfl rfl rfl rfl rfl ?_
              refine WH.val tt_ok rfl rfl rfl rfl rfl trivial rfl rfl ?_
              refine WH.eff 0 tt_ok et_ok rfl rfl rfl rfl trivial rfl rfl ?_
              refine WH.run 1 tt_ok rfl rfl rfl rfl trivial ?_
              exact WH.nilF rfl (LessW.mk' ⟨AVle.of rfl, AVle.of rfl, AVle.of rfl, AVle.of rfl, AVle.of rfl, trivial⟩ ⟨rfl, rfl, trivial⟩)
            · refine WH.val tt_ok rfl rfl rfl rfl rfl trivial rfl rfl ?_
              refine WH.val tt_ok rfl rfl rfl rfl rfl trivial rfl rfl ?_
              refine WH.mv rfl rfl rfl rfl rfl rfl rfl rfl rfl ?_
              refine WH.eff 0 tt_ok et_ok rfl rfl rfl rfl trivial rfl rfl ?_
              refine WH.run 1 tt_ok rfl rfl rfl rfl trivial ?_
              exact WH.nilF rfl (LessW.mk' ⟨AVle.of rfl, AVle.of rfl, AVle.of rfl, AVle.of rfl, AVle.of rfl, trivial⟩ ⟨rfl, rfl, trivial⟩)
        · refine WH.alloc 108 tt_ok rfl rfl rfl rfl rfl rfl ?_
          refine WH.fork ?_ (WH.fork ?_ ?_)
          · refine WH.val tt_ok rfl rfl rfl rfl rfl trivial rfl rfl ?_
            refine WH.mv rfl rfl rfl rfl rfl rfl rfl rfl rfl ?_
            refine WH.fork ?_ ?_
            · refine WH.val tt_ok rfl rfl rfl rfl rfl trivial rfl rfl ?_
              refine WH.fork ?_ ?_
              · refine WH.val tt_ok rfl rfl rfl rfl rfl trivial rfl rfl ?_
                refine WH.eff 0 tt_ok et_ok rfl rfl rfl rfl trivial rfl rfl ?_
                refine WH.run 1 tt_ok rfl rfl rfl rfl trivial ?_
                exact WH.nilF rfl (LessW.mk' ⟨AVle.of rfl, AVle.of rfl, AVle.of rfl, AVle.of rfl, AVle.of rfl, trivial⟩ ⟨rfl, rfl, trivial⟩)
              · refine WH.eff 0 tt_ok et_ok rfl rfl rfl rfl trivial rfl rfl ?_
                refine WH.val tt_ok rfl rfl rfl rfl rfl trivial rfl rfl ?_
                refine WH.run 1 tt_ok rfl rfl rfl rfl trivial ?_
                exact WH.nilF rfl (LessW.mk' ⟨AVle.of rfl, AVle.of rfl, AVle.of rfl, AVle.of rfl, AVle.of rfl, trivial⟩ ⟨rfl, rfl, trivial⟩)
            · refine WH.val tt_ok rfl rfl rfl rfl rfl trivial rfl rfl ?_
              refine WH.val tt_ok rfl rfl rfl rfl rfl trivial rfl rfl ?_
              refine WH.eff 0 tt_ok et_ok rfl rfl rfl rfl trivial rfl rfl ?_
              refine WH.run 1 tt_ok rfl rfl rfl rfl trivial ?_
              exact WH.nilF rfl (LessW.mk' ⟨AVle.of rfl, AVle.of rfl, AVle.of rfl, AVle.of rfl, AVle.of rfl, trivial⟩ ⟨rfl, rfl, trivial⟩)
          · refine WH.val tt_ok rfl rfl rfl rfl rfl trivial rfl rfl ?_
            refine WH.fork ?_ ?_
            · refine WH.val tt_ok rfl rfl rfl rfl rfl trivial rfl rfl ?_
              refine WH.mv rfl rfl rfl rfl rfl rfl rfl rfl rfl ?_
              refine WH.fork ?_ ?_
              · refine WH.val tt_ok rfl rfl rfl rfl rfl trivial rfl rfl ?_
                refine WH.eff 0 tt_ok et_ok rfl rfl rfl rfl trivial rfl rfl ?_
                refine WH.run 1 tt_ok rfl rfl rfl rfl trivial ?_
                exact WH.nilF rfl (LessW.mk' ⟨AVle.of rfl, AVle.of rfl, AVle.of rfl, AVle.of rfl, AVle.of rfl, trivial⟩ ⟨rfl, rfl, trivial⟩)
              · refine WH.eff 0 tt_ok et_ok rfl rfl rfl rfl trivial rfl rfl ?_
                refine WH.val tt_ok rfl rfl rfl rfl rfl trivial rfl rfl ?_
                refine WH.run 1 tt_ok rfl rfl rfl rfl trivial ?_
                exact WH.nilF rfl (LessW.mk' ⟨AVle.of rfl, AVle.of rfl, AVle.of rfl, AVle.of rfl, AVle.of rfl, trivial⟩ ⟨rfl, rfl, trivial⟩)
            · refine WH.val tt_ok rfl rfl rfl rfl rfl trivial rfl rfl ?_
              refine WH.val tt_ok rfl rfl rfl rfl rfl trivial rfl rfl ?_
              refine WH.mv rfl rfl rfl rfl rfl rfl rfl rfl rfl ?_
              refine WH.eff 0 tt_ok et_ok rfl rfl rfl rfl trivial rfl rfl ?_
              refine WH.run 1 tt_ok rfl rfl rfl rfl trivial ?_
              exact WH.nilF rfl (LessW.mk' ⟨AVle.of rfl, AVle.of rfl, AVle.of rfl, AVle.of rfl, AVle.of rfl, trivial⟩ ⟨rfl, rfl, trivial⟩)
          · refine WH.val tt_ok rfl rfl rfl rfl rfl trivial rfl rfl ?_
            refine WH.fork ?_ ?_
            · refine WH.val tt_ok rfl rfl rfl rfl rfl trivial rfl rfl ?_
              refine WH.mv rfl rfl rfl rfl rfl rfl rfl rfl rfl ?_
              refine WH.val tt_ok rfl rfl rfl rfl rfl trivial rfl rfl ?_
              refine WH.eff 0 tt_ok et_ok rfl rfl rfl rfl trivial rfl rfl ?_
              refine WH.run 1 tt_ok rfl rfl rfl rfl trivial ?_
              exact WH.nilF rfl (LessW.mk' ⟨AVle.of rfl, AVle.of rfl, AVle.of rfl, AVle.of rfl, AVle.of rfl, trivial⟩ ⟨rfl, rfl, trivial⟩)
            · refine WH.val tt_ok rfl rfl rfl rfl rfl trivial rfl rfl ?_
              refine WH.val tt_ok rfl rfl rfl rfl rfl trivial rfl rfl ?_
              refine WH.mv rfl rfl rfl rfl rfl rfl rfl rfl rfl ?_
              refine WH.eff 0 tt_ok et_ok rfl rfl rfl rfl trivial rfl rfl ?_
              refine WH.run 1 tt_ok rfl rfl rfl rfl trivial ?_
              exact WH.nilF rfl (LessW.mk' ⟨AVle.of rfl, AVle.of rfl, AVle.of rfl, AVle.of rfl, AVle.of rfl, trivial⟩ ⟨rfl, rfl, trivial⟩)
      · refine WH.alloc 108 tt_ok rfl rfl rfl rfl rfl rfl ?_
        refine WH.call [] rfl (exec_Do_0 _ _ _ _ hx4_7_1) exec_Do_f rfl rfl trivial rfl rfl rfl rfl rfl ?_
        refine WH.mv rfl rfl rfl rfl rfl rfl rfl rfl rfl ?_
        refine WH.fork ?_ (WH.fork ?_ ?_)
        · refine WH.val tt_ok rfl rfl rfl rfl rfl trivial rfl rfl ?_
          refine WH.mv rfl rfl rfl rfl rfl rfl rfl rfl rfl ?_
          refine WH.fork ?_ ?_
          · refine WH.val tt_ok rfl rfl rfl rfl rfl trivial rfl rfl ?_
            refine WH.fork ?_ ?_
            · refine WH.val tt_ok rfl rfl rfl rfl rfl trivial rfl rfl ?_
              refine WH.eff 0 tt_ok et_ok rfl rfl rfl rfl trivial rfl rfl ?_
              refine WH.run 1 tt_ok rfl rfl rfl rfl trivial ?_
              exact WH.nilF rfl (LessW.mk' ⟨AVle.of rfl, AVle.of rfl, AVle.of rfl, AVle.of rfl, AVle.of rfl, trivial⟩ ⟨rfl, rfl, trivial⟩)
            · refine WH.eff 0 tt_ok et_ok rfl rfl rfl rfl trivial rfl rfl ?_
              refine WH.val tt_ok rfl rfl rfl rfl rfl trivial rfl rfl ?_
              refine WH.run 1 tt_ok rfl rfl rfl rfl trivial ?_
              exact WH.nilF rfl (LessW.mk' ⟨AVle.of rfl, AVle.of rfl, AVle.of rfl, AVle.of rfl, AVle.of rfl, trivial⟩ ⟨rfl, rfl, trivial⟩)
          · refine WH.val tt_ok rfl rfl rfl rfl rfl trivial rfl rfl ?_
            refine WH.val tt_ok rfl rfl rfl rfl rfl trivial rfl rfl ?_
            refine WH.eff 0 tt_ok et_ok rfl rfl rfl rfl trivial rfl rfl ?_
            refine WH.run 1 tt_ok rfl rfl rfl rfl trivial ?_
            exact WH.nilF rfl (LessW.mk' ⟨AVle.of rfl, AVle.of rfl, AVle.of rfl, AVle.of rfl, AVle.of rfl, trivial⟩ ⟨rfl, rfl, trivial⟩)
        · refine WH.val tt_ok rfl rfl rfl rfl rfl trivial rfl rfl ?_
          refine WH.fork ?_ ?_
          · refine WH.val tt_ok rfl rfl rfl rfl rfl trivial rfl rfl ?_
            refine WH.mv rfl rfl rfl rfl rfl rfl rfl rfl rfl ?_
            refine WH.fork ?_ ?_
            · refine WH.val tt_ok rfl rfl rfl rfl rfl trivial rfl rfl ?_
              refine WH.eff 0 tt_ok et_ok rfl rfl rfl rfl trivial rfl rfl ?_
              refine WH.run 1 tt_ok rfl rfl rfl rfl trivial ?_
              exact WH.nilF rfl (LessW.mk' ⟨AVle.of rfl, AVle.of rfl, AVle.of rfl, AVle.of rfl, AVle.of rfl, trivial⟩ ⟨rfl, rfl, trivial⟩)
            · refine WH.eff 0 tt_ok et_ok rfl rfl rfl rfl trivial rfl rfl ?_
              refine WH.val tt_ok rfl rfl rfl rfl rfl trivial rfl rfl ?_
              refine WH.run 1 tt_ok rfl rfl rfl rfl trivial ?_
              exact WH.nilF rfl (LessW.mk' ⟨AVle.of rfl, AVle.of rfl, AVle.of rfl, AVle.of rfl, AVle.of rfl, trivial⟩ ⟨rfl, rfl, trivial⟩)
          · refine WH.val tt_ok rfl rfl rfl rfl rfl trivial rfl rfl ?_
            refine WH.val tt_ok rfl rfl rfl rfl rfl trivial rfl rfl ?_
            refine WH.mv rfl rfl rfl rfl rfl rfl rfl rfl rfl ?_
            refine WH.eff 0 tt_ok et_ok rfl rfl rfl rfl trivial rfl rfl ?_
            refine WH.run 1 tt_ok rfl rfl rfl rfl trivial ?_
            exact WH.nilF rfl (LessW.mk' ⟨AVle.of rfl, AVle.of rfl, AVle.of rfl, AVle.of rfl, AVle.of rfl, trivial⟩ ⟨rfl, rfl, trivial⟩)
        · refine WH.val tt_ok rfl rfl rfl rfl rfl trivial rfl rfl ?_
          refine WH.fork ?_ ?_
          · refine WH.val tt_ok rfl rfl rfl rfl rfl trivial rfl rfl ?_
            refine WH.mv rfl rfl rfl rfl rfl rfl rfl rfl rfl ?_
            refine WH.val tt_ok rfl rfl rfl rfl rfl trivial rfl rfl ?_
            refine WH.eff 0 tt_ok et_ok rfl rfl rfl rfl trivial rfl rfl ?_
            refine WH.run 1 tt_ok rfl rfl rfl rfl trivial ?_
            exact WH.nilF rfl (LessW.mk' ⟨AVle.of rfl, AVle.of rfl, AVle.of rfl, AVle.of rfl, AVle.of rfl, trivial⟩ ⟨rfl, rfl, trivial⟩)
          · refine WH.val tt_ok rfl rfl rfl rfl rfl trivial rfl rfl ?_
            refine WH.val tt_ok rfl rfl rfl rfl rfl trivial rfl rfl ?_
            refine WH.mv rfl rfl rfl rfl rfl rfl rfl rfl rfl ?_
            refine WH.eff 0 tt_ok et_ok rfl rfl rfl rfl trivial rfl rfl ?_
            refine WH.run 1 tt_ok rfl rfl rfl rfl trivial ?_
            exact WH.nilF rfl (LessW.mk' ⟨AVle.of rfl, AVle.of rfl, AVle.of rfl, AVle.of rfl, AVle.of rfl, trivial⟩ ⟨rfl, rfl, trivial⟩)
    · refine WH.alloc 108 tt_ok rfl rfl rfl rfl rfl rfl ?_
      refine WH.call [] rfl (law10_Own_0 _ hx4_1_1) law10_Own_f rfl rfl trivial rfl rfl rfl rfl rfl ?_
      refine WH.call [] rfl (exec_Do_0 _ _ _ _ hx4_7_1) exec_Do_f rfl rfl trivial rfl rfl rfl rfl rfl ?_
      refine WH.mv rfl rfl rfl rfl rfl rfl rfl rfl rfl ?_
      refine WH.fork ?_ (WH.fork ?_ ?_)
      · refine WH.val tt_ok rfl rfl rfl rfl rfl trivial rfl rfl ?_
        refine WH.mv rfl rfl rfl rfl rfl rfl rfl rfl rfl ?_
        refine WH.fork ?_ ?_
        · refine WH.val tt_ok rfl rfl rfl rfl rfl trivial rfl rfl ?_
          refine WH.fork ?_ ?_
          · refine WH.val tt_ok rfl rfl rfl rfl rfl trivial rfl rfl ?_
            refine WH.eff 0 tt_ok et_ok rfl rfl rfl rfl trivial rfl rfl ?_
            refine WH.run 1 tt_ok rfl rfl rfl rfl trivial ?_
            exact WH.nilF rfl (LessW.mk' ⟨AVle.of rfl, AVle.of rfl, AVle.of rfl, AVle.of rfl, AVle.of rfl, trivial⟩ ⟨rfl, rfl, trivial⟩)
          · refine WH.eff 0 tt_ok et_ok rfl rfl rfl rfl trivial rfl rfl ?_
            refine WH.val tt_ok rfl rfl rfl rfl rfl trivial rfl rfl ?_
            refine WH.run 1 tt_ok rfl rfl rfl rfl trivial ?_
            exact WH.nilF rfl (LessW.mk' ⟨AVle.of rfl, AVle.of rfl, AVle.of rfl, AVle.of rfl, AVle.of rfl, trivial⟩ ⟨rfl, rfl, trivial⟩)
        · refine WH.val tt_ok rfl rfl rfl rfl rfl trivial rfl rfl ?_
          refine WH.val tt_ok rfl rfl rfl rfl rfl trivial rfl rfl ?_
          refine WH.eff 0 tt_ok et_ok rfl rfl rfl rfl trivial rfl rfl ?_
          refine WH.run 1 tt_ok rfl rfl rfl rfl trivial ?_
          exact WH.nilF rfl (LessW.mk' ⟨AVle.of rfl, AVle.of rfl, AVle.of rfl, AVle.of rfl, AVle.of rfl, trivial⟩ ⟨rfl, rfl, trivial⟩)
      · refine WH.val tt_ok rfl rfl rfl rfl rfl trivial rfl rfl ?_
        refine WH.fork ?_ ?_
        · refine WH.val tt_ok rfl rfl rfl rfl rfl trivial rfl rfl ?_
          refine WH.mv rfl rfl rfl rfl rfl rfl rfl rfl rfl ?_
          refine WH.fork ?_ ?_
          · refine WH.val tt_ok rfl rfl rfl rfl rfl trivial rfl rfl ?_
            refine WH.eff 0 tt_ok et_ok rfl rfl rfl rfl trivial rfl rfl ?_
            refine WH.run 1 tt_ok rfl rfl rfl rfl trivial ?_
            exact WH.nilF rfl (LessW.mk' ⟨AVle.of rfl, AVle.of rfl, AVle.of rfl, AVle.of rfl, AVle.of rfl, trivial⟩ ⟨rfl, rfl, trivial⟩)
          · refine WH.eff 0 tt_ok et_ok rfl rfl rfl rfl trivial rfl rfl ?_
            refine WH.val tt_ok rfl rfl rfl rfl rfl trivial rfl rfl ?_
            refine WH.run 1 tt_ok rfl rfl rfl rfl trivial ?_
            exact WH.nilF rfl (LessW.mk' ⟨AVle.of rfl, AVle.of rfl, AVle.of rfl, AVle.of rfl, AVle.of rfl, trivial⟩ ⟨rfl, rfl, trivial⟩)
        · refine WH.val tt_ok rfl rfl rfl rfl rfl trivial rfl rfl ?_
          refine WH.val tt_ok rfl rfl rfl rfl rfl trivial rfl rfl ?_
          refine WH.mv rfl rfl rfl rfl rfl rfl rfl rfl rfl ?_
          refine WH.eff 0 tt_ok et_ok rfl rfl rfl rfl trivial rfl rfl ?_
          refine WH.run 1 tt_ok rfl rfl rfl rfl trivial ?_
          exact WH.nilF rfl (LessW.mk' ⟨AVle.of rfl, AVle.of rfl, AVle.of rfl, AVle.of rfl, AVle.of rfl, trivial⟩ ⟨rfl, rfl, trivial⟩)
      · refine WH.val tt_ok rfl rfl rfl rfl rfl trivial rfl rfl ?_
        refine WH.fork ?_ ?_
        · refine WH.val tt_ok rfl rfl rfl rfl rfl trivial rfl rfl ?_
          refine WH.mv rfl rfl rfl rfl rfl rfl rfl rfl rfl ?_
          refine WH.val tt_ok rfl rfl rfl rfl rfl trivial rfl rfl ?_
          refine WH.eff 0 tt_ok et_ok rfl rfl rfl rfl trivial rfl rfl ?_
          refine WH.run 1 tt_ok rfl rfl rfl rfl trivial ?_
          exact WH.nilF rfl (LessW.mk' ⟨AVle.of rfl, AVle.of rfl, AVle.of rfl, AVle.of rfl, AVle.of rfl, trivial⟩ ⟨rfl, rfl, trivial⟩)
        · refine WH.val tt_ok rfl rfl rfl rfl rfl trivial rfl rfl ?_
          refine WH.val tt_ok rfl rfl rfl rfl rfl trivial rfl rfl ?_
          refine WH.mv rfl rfl rfl rfl rfl rfl rfl rfl rfl ?_
          refine WH.eff 0 tt_ok et_ok rfl rfl rfl rfl trivial rfl rfl ?_
          refine WH.run 1 tt_ok rfl rfl rfl rfl trivial ?_
          exact WH.nilF rfl (LessW.mk' ⟨AVle.of rfl, AVle.of rfl, AVle.of rfl, AVle.of rfl, AVle.of rfl, trivial⟩ ⟨rfl, rfl, trivial⟩)
  · refine QT.n ?_
    refine WC.seq ?_
    refine WC.seq ?_
    refine WC.region ?_
    refine WL.run 2 tt_ok sg0 rfl rfl trivial ?_
    refine WL.nil ?_
    refine QT.n ?_
    refine WC.cond rfl (fun h4 => ?_) (fun h4 => ?_)
    · replace H := of_t H h4
      refine WC.seq ?_
      refine WC.region ?_
      refine WL.run 2 tt_ok sg0 rfl rfl trivial ?_
      obtain ⟨x5, hx5, H⟩ := of_bind H
      refine WL.call [] (ref14_Same_0 _ _ hx5) ref14_Same_f rfl rfl trivial rfl rfl rfl ?_
      refine WL.run 1 tt_ok sg0 rfl rfl trivial ?_
      refine WL.sect 3 3 true tt_ok sg0 rfl rfl (fun _ => trivial) ?_
      refine WL.run 2 tt_ok sg0 rfl rfl ⟨by first | exact id | exact fun h => by rw [h]; rfl | simp_all, trivial⟩ ?_
      obtain ⟨x6, hx6, H⟩ := of_bind H
      refine WL.sect 1 8 true tt_ok [PSig.at' law15_lives_f ((x5 && (iEq x4_7_1.2.1.Op (-1))) = true) rfl (fun hb => law15_lives_0  (of_t hx6 hb))] rfl rfl (fun hb => ⟨⟨hb, rfl⟩, trivial⟩) ?_
      refine WL.run 2 tt_ok sg0 rfl rfl ⟨by first | exact id | exact fun h => by rw [h]; rfl | simp_all, trivial⟩ ?_
      refine WL.nil ?_
      refine QT.n ?_
      refine WC.ret ?_
      refine QT.r ?_
      cases H
      exact Ends.auto rfl rfl rfl trivial
    replace H := of_f H h4
    refine WC.skip ?_
    refine QT.n ?_
    refine WC.seq ?_
    refine WC.seq ?_
    refine WC.region ?_
    refine WL.run 3 tt_ok sg0 rfl rfl trivial ?_
    refine WL.nil ?_
    refine QT.n ?_
    refine WC.cond rfl (fun h7 => ?_) (fun h7 => ?_)
    · replace H := of_t H h7
      refine WC.seq ?_
      refine WC.region ?_
      refine WL.run 4 tt_ok sg0 rfl rfl trivial ?_
      refine WL.sect 3 3 true tt_ok sg0 rfl rfl (fun _ => trivial) ?_
      refine WL.run 2 tt_ok sg0 rfl rfl ⟨by first | exact id | exact fun h => by rw [h]; rfl | simp_all, trivial⟩ ?_
      obtain ⟨x8, hx8, H⟩ := of_bind H
      refine WL.sect 1 8 true tt_ok [PSig.at' law15_lives_f (((iEq (x4_7_1.1.length : Int) 0) && (iEq (x1.1.length : Int) 1)) = true) rfl (fun hb => law15_lives_0  (of_t hx8 hb))] rfl rfl (fun hb => ⟨⟨hb, rfl⟩, trivial⟩) ?_
      refine WL.run 2 tt_ok sg0 rfl rfl ⟨by first | exact id | exact fun h => by rw [h]; rfl | simp_all, trivial⟩ ?_
      refine WL.nil ?_
      refine QT.n ?_
      refine WC.ret ?_
      refine QT.r ?_
      cases H
      exact Ends.auto rfl rfl rfl trivial
    replace H := of_f H h7
    refine WC.skip ?_
    refine QT.n ?_
    refine WC.seq ?_
    refine WC.seq ?_
    refine WC.region ?_
    refine WL.run 4 tt_ok sg0 rfl rfl trivial ?_
    refine WL.sect 3 3 false tt_ok sg0 rfl rfl (fun _ => trivial) ?_
    refine WL.run 1 tt_ok sg0 rfl rfl ⟨by first | exact id | exact fun h => by rw [h]; rfl | simp_all, trivial⟩ ?_
    refine WL.nil ?_
    refine QT.n ?_
    refine WC.cond rfl (fun h9 => ?_) (fun h9 => ?_)
    · replace H := of_t H h9
      refine WC.seq ?_
      refine WC.region ?_
      refine WL.run 1 tt_ok sg0 rfl rfl trivial ?_
      refine WL.nil ?_
      refine QT.n ?_
      refine WC.ret ?_
      refine QT.r ?_
      cases H
      exact Ends.auto rfl rfl rfl trivial
    replace H := of_f H h9
    refine WC.skip ?_
    refine QT.n ?_
    refine WC.seq ?_
    refine WC.region ?_
    obtain ⟨g10, H⟩ := of_need H
    refine WL.run 6 tt_ok sg0 rfl rfl ⟨⟨(nIn_ok g10).1, (nIn_ok g10).2, rfl⟩, trivial⟩ ?_
    refine WL.alloc 110 tt_ok rfl rfl rfl ?_
    refine WL.eff 0 tt_ok et_ok eg0 rfl rfl rfl trivial ?_
    refine WL.nil ?_
    refine QT.n ?_
    refine WC.seq ?_
    refine WC.region ?_
    refine WL.run 3 tt_ok sg0 rfl rfl trivial ?_
    obtain ⟨x11, hx11, H⟩ := of_bind H
    refine WL.call [] (ref11_Of_0 _ _ hx11) ref11_Of_f rfl rfl trivial rfl rfl rfl ?_
    refine WL.run 7 tt_ok sg0 rfl rfl trivial ?_
    refine WL.nil ?_
    refine QT.n ?_
    refine WC.seq ?_
    refine WC.region ?_
    refine WL.run 1 tt_ok sg0 rfl rfl trivial ?_
    refine WL.nil ?_
    refine QT.n ?_
    refine WC.seq ?_
    refine WC.seq ?_
    refine WC.region ?_
    refine WL.run 3 tt_ok sg0 rfl rfl trivial ?_
    refine WL.nil ?_
    refine QT.n ?_
    refine WC.cond rfl (fun h12 => ?_) (fun h12 => ?_)
    · replace H := of_t H h12
      refine WC.region ?_
      refine WL.run 2 tt_ok sg0 rfl rfl trivial ?_
      obtain ⟨x13, hx13, H⟩ := of_bind H
      refine WL.call [] (ref06_Pushes_0 _ hx13) ref06_Pushes_f rfl rfl trivial rfl rfl rfl ?_
      refine WL.run 1 tt_ok sg0 rfl rfl trivial ?_
      refine WL.nil ?_
      refine QT.n ?_
      refine WC.seq ?_
      refine WC.heldP (.one 0 true (.one 1 true (.one 2 true (.one 3 true (.one 4 true (.one 5 true (.one 6 true (.one 7 true (.one 8 true (.one 9 true (.one 10 true (.one 11 true (.one 12 true (.one 13 true (.one 14 true (.one 15 true (.one 16 true (.one 17 true (.one 18 true (.one 19 true (.one 20 true (.one 21 true (.one 22 true (.one 23 true (.one 24 true (.one 25 true (.one 26 true (.one 27 false (.one 28 true (.one 29 true .done)))))))))))))))))))))))))))))) [102, 108, 110] [102, 108, 110] rfl (by kernel_rfl) rfl (by kernel_rfl) rfl rfl (fun _ h => h) rfl rfl rfl (fun _ _ _ h => h) fun FK NK wK K => ?_
      refine WH.run 3 tt_ok rfl rfl rfl rfl trivial ?_
      refine WH.sect 3 2 true tt_ok rfl rfl rfl rfl (fun _ => trivial) ?_
      refine WH.run 2 tt_ok rfl rfl rfl rfl ⟨by first | exact id | exact fun h => by rw [h]; rfl | simp_all, trivial⟩ ?_
      refine WH.sect 5 7 true tt_ok rfl rfl rfl rfl (fun _ => trivial) ?_
      refine WH.run 2 tt_ok rfl rfl rfl rfl ⟨by first | exact id | exact fun h => by rw [h]; rfl | simp_all, trivial⟩ ?_
      obtain ⟨g14, H⟩ := of_needS H
      refine WH.sect 10 14 true tt_ok rfl rfl rfl rfl (fun hb => ⟨⟨(nIn_ok (g14 hb)).1, (nIn_ok (g14 hb)).2, rfl⟩, trivial⟩) ?_
      refine WH.run 2 tt_ok rfl rfl rfl rfl ⟨by first | exact id | exact fun h => by rw [h]; rfl | simp_all, trivial⟩ ?_
      refine WH.split (g := 117) rfl (fun h15 => ?_) (fun h15 => ?_)
      · replace H := of_t H h15
        obtain ⟨x16, hx16, H⟩ := of_bind H
        refine WH.gcall [] rfl (law15_lives_0 hx16) law15_lives_f rfl rfl trivial rfl rfl rfl rfl rfl rfl rfl rfl ?_
        refine WH.pick1 rfl rfl rfl rfl rfl rfl rfl ?_
        refine WH.run 1 tt_ok rfl rfl rfl rfl trivial ?_
        refine WH.nil rfl ?_
        refine QT.n ?_
        refine WC.ret ?_
        cases H
        exact Ends.auto rfl rfl rfl trivial
      · replace H := of_f H h15
        refine WH.gskip rfl rfl rfl rfl rfl rfl rfl ?_
        refine WH.pick1 rfl rfl rfl rfl rfl rfl rfl ?_
        refine WH.run 1 tt_ok rfl rfl rfl rfl trivial ?_
        refine WH.nil rfl ?_
        refine QT.n ?_
        refine WC.ret ?_
        cases H
        exact Ends.auto rfl rfl rfl trivial
    replace H := of_f H h12
    refine WC.skip ?_
    refine QT.n ?_
    refine WC.seq ?_
    refine WC.heldP (.one 0 true (.one 1 true (.one 2 true (.one 3 true (.one 4 true (.one 5 true (.one 6 true (.one 7 true (.one 8 true (.one 9 true (.one 10 true (.one 11 true (.one 12 true (.one 13 true (.one 14 true (.one 15 true (.one 16 true (.one 17 true (.one 18 true (.one 19 true (.one 20 true (.one 21 true (.one 22 true (.one 23 true (.one 24 true (.one 25 true (.one 26 true (.one 27 false (.one 28 true (.one 29 true .done)))))))))))))))))))))))))))))) [102, 108, 110] [102, 108, 110] rfl (by kernel_rfl) rfl (by kernel_rfl) rfl rfl (fun _ h => h) rfl rfl rfl (fun _ _ _ h => h) fun FK NK wK K => ?_
    refine WH.run 3 tt_ok rfl rfl rfl rfl trivial ?_
    refine WH.sect 3 2 true tt_ok rfl rfl rfl rfl (fun _ => trivial) ?_
    refine WH.run 2 tt_ok rfl rfl rfl rfl ⟨by first | exact id | exact fun h => by rw [h]; rfl | simp_all, trivial⟩ ?_
    refine WH.sect 5 7 true tt_ok rfl rfl rfl rfl (fun _ => trivial) ?_
    refine WH.run 2 tt_ok rfl rfl rfl rfl ⟨by first | exact id | exact fun h => by rw [h]; rfl | simp_all, trivial⟩ ?_
    obtain ⟨g17, H⟩ := of_needS H
    refine WH.sect 10 14 true tt_ok rfl rfl rfl rfl (fun hb => ⟨⟨(nIn_ok (g17 hb)).1, (nIn_ok (g17 hb)).2, rfl⟩, trivial⟩) ?_
    refine WH.run 2 tt_ok rfl rfl rfl rfl ⟨by first | exact id | exact fun h => by rw [h]; rfl | simp_all, trivial⟩ ?_
    refine WH.split (g := 117) rfl (fun h18 => ?_) (fun h18 => ?_)
    · replace H := of_t H h18
      obtain ⟨x19, hx19, H⟩ := of_bind H
      refine WH.gcall [] rfl (law15_lives_0 hx19) law15_lives_f rfl rfl trivial rfl rfl rfl rfl rfl rfl rfl rfl ?_
      refine WH.pick1 rfl rfl rfl rfl rfl rfl rfl ?_
      refine WH.run 1 tt_ok rfl rfl rfl rfl trivial ?_
      refine WH.nil rfl ?_
      refine QT.n ?_
      refine WC.ret ?_
      cases H
      exact Ends.auto rfl rfl rfl trivial
    · replace H := of_f H h18
      refine WH.gskip rfl rfl rfl rfl rfl rfl rfl ?_
      refine WH.pick1 rfl rfl rfl rfl rfl rfl rfl ?_
      refine WH.run 1 tt_ok rfl rfl rfl rfl trivial ?_
      refine WH.nil rfl ?_
      refine QT.n ?_
      refine WC.ret ?_
      cases H
      exact Ends.auto rfl rfl rfl trivial

end Go.Proofs.Ytcnfbifekdmacaa.W
