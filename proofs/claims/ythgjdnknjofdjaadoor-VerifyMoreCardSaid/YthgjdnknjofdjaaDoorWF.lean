/- Each Go function comes to what its plain function gives, where that gives something. -/
import Derived.Test.YthgjdnknjofdjaaDoorPF
import Derived.Test.YthgjdnknjofdjaaDoorSq
import Derived.Test.YthgjdnknjofdjaaDoorWF2
import Derived.Test.YthgjdnknjofdjaaDoorXByt
import Derived.Test.YthgjdnknjofdjaaDoorXMak
import Derived.Test.YthgjdnknjofdjaaDoorXQue
namespace Go.Proofs.YthgjdnknjofdjaaDoor.W
open Go Go.RowKit LJ
set_option linter.unusedVariables false
set_option linter.unusedSimpArgs false
set_option maxRecDepth 10000
theorem ref12_Program_0 (a0 : T_api_Program) {r : Int × Int × Int} (H : ref12_Program a0 = some r) : LJ.Spec Tryd.prog 25 [.d (.agg [slT enc_api_Decl a0.Decls, slT enc_sl_sl_api_Need a0.Waits, slT enc_api_Func a0.Funcs])] [] (.tup [.d (.int .i64 r.1), .d (.int .i64 r.2.1), .d (.int .i64 r.2.2)]) [] := by
 refine LJ.Spec.code Tryd.func25 rfl 94 rfl rfl [] rfl fun w0 F0 S0 B0 => ?_
 unfold ref12_Program at H
 refine Ws (Wg (We 101 tk ek eg0 rfl rfl rfl tv (Wr 3 tk sg0 rfl rfl tv (Wn (Qn (Ws (Ws (Wg (Wr 1 tk sg0 rfl rfl tv ?_)))))))))
 obtain ⟨x1, hx1, H⟩ := of_bind H
 refine Wf [] (ref10_Check_0 _ hx1) ref10_Check_f rfl rfl tv rfl rfl rfl (Wr 1 tk sg0 rfl rfl tv (Wn (Qn (Ws (Wg (Wr 2 tk sg0 rfl rfl tv (Wn (Qn (Wc rfl (fun h2 => ?_) (fun h2 => ?_))))))))))
 ·replace H := of_t H h2
  refine Ws (Wg (Wr 4 tk sg0 rfl rfl tv (Wn (Qn (Wt (QT.r ?_))))))
  cases H
  exact Ea rfl rfl rfl tv
 replace H := of_f H h2
 refine Wk (Qn (Ws (Ws (Wg ?_))))
 obtain ⟨g3, H⟩ := of_need H
 refine Wr 6 tk sg0 rfl rfl ⟨⟨(nIn_ok g3).1, (nIn_ok g3).2, rfl⟩, tv⟩ (Wn (Qn (Wc rfl (fun h4 => ?_) (fun h4 => ?_))))
 ·replace H := of_t H h4
  refine Ws (Wg (Wr 3 tk sg0 rfl rfl tv (Wn (Qn (Wt (QT.r ?_))))))
  cases H
  exact Ea rfl rfl rfl tv
 replace H := of_f H h4
 refine Wk (Qn (Ws (Ws (Wg (Wr 1 tk sg0 rfl rfl tv (Wn (Qn (Wb (Wl (ι := {x : Nat × Int // ref12_Program_l6 a0 x.1 x.2 = some r}) (fun x => [(1, .ptr 101 0), (6, .d (.int .i64 x.1.2))]) (fun x => [(101, .box 26 [.d (slT enc_api_Decl a0.Decls), .d (slT enc_sl_sl_api_Need a0.Waits), .d (slT enc_api_Func a0.Funcs)])]) (fun x => x.1.1) ⟨(fuel, 0), H⟩ (Less.mk' ⟨rfl, rfl, tv⟩ ⟨rfl, tv⟩) fun x => ?_)))))))))
 obtain ⟨⟨k6, s5⟩, H⟩ := x
 rcases k6 with _ | k6
 ·exact of_none H
 rw [ref12_Program_l6] at H
 refine Ws (Ws (Wg (Wr 5 tk sg0 rfl rfl tv (Wn (Qn (Wc rfl (fun h7 => ?_) (fun h7 => ?_)))))))
 ·replace H := of_t H h7
  refine Wk (Qn ?_)
  obtain ⟨K8, hK8, H⟩ := of_withK H
  refine WC.cut (fun E m => ∃ s9 : Unit, K8 s9 = some r ∧ LessW E m [(1, .ptr 101 0), (6, .d (.int .i64 s5))] [(101, .box 26 [.d (slT enc_api_Decl a0.Decls), .d (slT enc_sl_sl_api_Need a0.Waits), .d (slT enc_api_Func a0.Funcs)])]) ?_ ?_
  ·refine Wb (Ws (Wg ?_))
   obtain ⟨g10, H⟩ := of_need H
   refine Wr 5 tk sg0 rfl rfl ⟨⟨(nIn_ok g10).1, (nIn_ok g10).2, rfl⟩, tv⟩ (Wa 107 tk rfl rfl rfl (We 0 tk ek eg0 rfl rfl rfl tv (Wn (Qn (Ws (Ws (Wg (Wr 1 tk sg0 rfl rfl tv (Wn (Qn (Wb (Wl (ι := {x : Nat × Int // ref12_Program_l12 a0 s5 K8 x.1 x.2 = some r}) (fun x => [(1, .ptr 101 0), (6, .d (.int .i64 s5)), (7, .ptr 107 0), (8, .d (.int .i64 x.1.2))]) (fun x => [(101, .box 26 [.d (slT enc_api_Decl a0.Decls), .d (slT enc_sl_sl_api_Need a0.Waits), .d (slT enc_api_Func a0.Funcs)]), (107, .box 44 [.d (.int .i64 ((a0.Funcs.getD s5.toNat default).Args)), .d (.int .i64 ((a0.Funcs.getD s5.toNat default).Locals)), .d (slT enc_api_Ins ((a0.Funcs.getD s5.toNat default).Code))])]) (fun x => x.1.1) ⟨(fuel, 0), H⟩ (Less.mk' ⟨rfl, rfl, rfl, rfl, tv⟩ ⟨rfl, rfl, tv⟩) fun x => ?_))))))))))))
   obtain ⟨⟨k12, s11⟩, H⟩ := x
   rcases k12 with _ | k12
   ·exact of_none H
   rw [ref12_Program_l12] at H
   refine Ws (Ws (Wg (Wr 5 tk sg0 rfl rfl tv (Wn (Qn (Wc rfl (fun h13 => ?_) (fun h13 => ?_)))))))
   ·replace H := of_t H h13
    refine Wk (Qn ?_)
    obtain ⟨K14, hK14, H⟩ := of_withK H
    refine WC.cut (fun E m => ∃ s15 : Unit, K14 s15 = some r ∧ LessW E m [(1, .ptr 101 0), (6, .d (.int .i64 s5)), (7, .ptr 107 0), (8, .d (.int .i64 s11))] [(101, .box 26 [.d (slT enc_api_Decl a0.Decls), .d (slT enc_sl_sl_api_Need a0.Waits), .d (slT enc_api_Func a0.Funcs)]), (107, .box 44 [.d (.int .i64 ((a0.Funcs.getD s5.toNat default).Args)), .d (.int .i64 ((a0.Funcs.getD s5.toNat default).Locals)), .d (slT enc_api_Ins ((a0.Funcs.getD s5.toNat default).Code))])]) ?_ ?_
    ·refine Wb (Ws (Wg ?_))
     obtain ⟨g16, H⟩ := of_need H
     refine Wr 5 tk sg0 rfl rfl ⟨⟨(nIn_ok g16).1, (nIn_ok g16).2, rfl⟩, tv⟩ (Wa 109 tk rfl rfl rfl (We 0 tk ek eg0 rfl rfl rfl tv (Wn (Qn (Ws ?_)))))
     obtain ⟨x14_2_1, hx14_2_1, H⟩ := of_bind H
     refine WC.heldF [(1, .ptr 101 0), (6, .d (.int .i64 s5)), (7, .ptr 107 0), (8, .d (.int .i64 s11)), (9, .ptr 109 0), (10, .d (.str x14_2_1)), (11, .d (slT enc_i64 ([(((a0.Funcs.getD s5.toNat default).Code).getD s11.toNat default).A, (((a0.Funcs.getD s5.toNat default).Code).getD s11.toNat default).B] : List Int)))] [(101, .box 26 [.d (slT enc_api_Decl a0.Decls), .d (slT enc_sl_sl_api_Need a0.Waits), .d (slT enc_api_Func a0.Funcs)]), (107, .box 44 [.d (.int .i64 ((a0.Funcs.getD s5.toNat default).Args)), .d (.int .i64 ((a0.Funcs.getD s5.toNat default).Locals)), .d (slT enc_api_Ins ((a0.Funcs.getD s5.toNat default).Code))]), (109, .box 46 [.d (.int .i64 ((((a0.Funcs.getD s5.toNat default).Code).getD s11.toNat default).Op)), .d (.int .i64 ((((a0.Funcs.getD s5.toNat default).Code).getD s11.toNat default).A)), .d (.int .i64 ((((a0.Funcs.getD s5.toNat default).Code).getD s11.toNat default).B))])] (.one 0 true (.one 1 true (.one 3 true (.one 4 true (.one 5 true (.one 6 true (.fork (.one 2 false (.one 8 true (.one 7 false (.one 9 true .done)))) (.one 7 false (.one 2 false (.one 8 true (.one 9 true .done))))))))))) [101, 107, 109] [101, 107, 109] rfl (by kernel_rfl) rfl (by kernel_rfl) rfl rfl (fun _ h => h) rfl rfl rfl (fun FK NK wK K => ?_) ?_
     ·refine Hr 6 tk rfl rfl rfl rfl tv (WH.fork ?_ ?_)
      ·exact WH.call [] rfl (ref06_Form_0 _ hx14_2_1) ref06_Form_f rfl rfl tv rfl rfl rfl rfl rfl (Hr 1 tk rfl rfl rfl rfl tv (He 159 tk ek rfl rfl rfl rfl tv rfl rfl (WH.freezeT 159 enc_i64 ([(((a0.Funcs.getD s5.toNat default).Code).getD s11.toNat default).A, (((a0.Funcs.getD s5.toNat default).Code).getD s11.toNat default).B] : List Int) rfl rfl rfl rfl (WH.mv rfl rfl rfl rfl rfl rfl rfl rfl rfl (Hn rfl (LessW.mk' ⟨Ao rfl, Ao rfl, Ao rfl, Ao rfl, Ao rfl, Ao rfl, Ao rfl, tv⟩ ⟨rfl, rfl, rfl, tv⟩))))))
      ·exact He 159 tk ek rfl rfl rfl rfl tv rfl rfl (WH.freezeT 159 enc_i64 ([(((a0.Funcs.getD s5.toNat default).Code).getD s11.toNat default).A, (((a0.Funcs.getD s5.toNat default).Code).getD s11.toNat default).B] : List Int) rfl rfl rfl rfl (WH.call [] rfl (ref06_Form_0 _ hx14_2_1) ref06_Form_f rfl rfl tv rfl rfl rfl rfl rfl (Hr 1 tk rfl rfl rfl rfl tv (WH.mv rfl rfl rfl rfl rfl rfl rfl rfl rfl (Hn rfl (LessW.mk' ⟨Ao rfl, Ao rfl, Ao rfl, Ao rfl, Ao rfl, Ao rfl, Ao rfl, tv⟩ ⟨rfl, rfl, rfl, tv⟩))))))
     ·refine Qn (Ws (Wg (Wr 1 tk sg0 rfl rfl tv (Wn (Qn (Wb (Wl (ι := {x : Nat × Int // ref12_Program_l18 a0 s5 s11 x14_2_1 K14 x.1 x.2 = some r}) (fun x => [(1, .ptr 101 0), (6, .d (.int .i64 s5)), (7, .ptr 107 0), (8, .d (.int .i64 s11)), (9, .ptr 109 0), (10, .d (.str x14_2_1)), (11, .d (slT enc_i64 ([(((a0.Funcs.getD s5.toNat default).Code).getD s11.toNat default).A, (((a0.Funcs.getD s5.toNat default).Code).getD s11.toNat default).B] : List Int))), (12, .d (.int .i64 x.1.2))]) (fun x => [(101, .box 26 [.d (slT enc_api_Decl a0.Decls), .d (slT enc_sl_sl_api_Need a0.Waits), .d (slT enc_api_Func a0.Funcs)]), (107, .box 44 [.d (.int .i64 ((a0.Funcs.getD s5.toNat default).Args)), .d (.int .i64 ((a0.Funcs.getD s5.toNat default).Locals)), .d (slT enc_api_Ins ((a0.Funcs.getD s5.toNat default).Code))]), (109, .box 46 [.d (.int .i64 ((((a0.Funcs.getD s5.toNat default).Code).getD s11.toNat default).Op)), .d (.int .i64 ((((a0.Funcs.getD s5.toNat default).Code).getD s11.toNat default).A)), .d (.int .i64 ((((a0.Funcs.getD s5.toNat default).Code).getD s11.toNat default).B))])]) (fun x => x.1.1) ⟨(fuel, 0), H⟩ (Less.mk' ⟨rfl, rfl, rfl, rfl, rfl, rfl, rfl, rfl, tv⟩ ⟨rfl, rfl, rfl, tv⟩) fun x => ?_)))))))
      obtain ⟨⟨k18, s17⟩, H⟩ := x
      rcases k18 with _ | k18
      ·exact of_none H
      rw [ref12_Program_l18] at H
      refine Ws (Ws (Wg (Wr 4 tk sg0 rfl rfl tv (Wn (Qn (Wc rfl (fun h19 => ?_) (fun h19 => ?_)))))))
      ·replace H := of_t H h19
       refine Wk (Qn (Ws (Wb (Ws (Hp (.one 0 true (.one 1 true (.one 2 true (.one 3 true (.one 4 true (.one 5 true (.one 6 true (.one 7 true (.one 8 true (.one 9 true (.one 10 false (.one 11 true .done)))))))))))) [101, 107, 109] [101, 107, 109] rfl (by kernel_rfl) rfl (by kernel_rfl) rfl rfl (fun _ h => h) rfl rfl rfl (fun _ _ _ h => h) fun FK NK wK K => ?_)))))
       obtain ⟨g20, H⟩ := of_need H
       obtain ⟨g21, H⟩ := of_need H
       refine Hr 10 tk rfl rfl rfl rfl ⟨(nIn_ok g20), ⟨(nIn_ok g21).1, (nIn_ok g21).2, rfl⟩, tv⟩ ?_
       obtain ⟨x22, hx22, H⟩ := of_bind H
       refine WH.call [] rfl (ref12_operand_0 _ _ _ _ _ hx22) ref12_operand_f rfl rfl tv rfl rfl rfl rfl rfl (Hr 1 tk rfl rfl rfl rfl tv (WH.nil rfl (Qn (Ws (Wg (Wr 2 tk sg0 rfl rfl tv (Wn (Qn (Wc rfl (fun h23 => ?_) (fun h23 => ?_))))))))))
       ·replace H := of_t H h23
        refine Ws (Wg (Wr 6 tk sg0 rfl rfl tv (Wn (Qn (Wt (QB.r (QT.r (QT.r (QB.r (QB.r (QT.r (QT.r (QB.r (QT.r (QB.r (QT.r (QT.r (QB.r (QT.r ?_)))))))))))))))))))
        cases H
        exact Ea rfl rfl rfl tv
       replace H := of_f H h23
       refine Wk (Qb (Qn ?_))
       exact Wg (Wr 3 tk sg0 rfl rfl tv (Wn (Qn (⟨⟨(k18, IntKind.i64.wrap (s17 + 1)), H⟩, Nat.lt_succ_self _, Less.mk' ⟨rfl, rfl, rfl, rfl, rfl, rfl, rfl, rfl, tv⟩ ⟨rfl, rfl, rfl, tv⟩⟩))))
      replace H := of_f H h19
      refine WC.exit (Qx (Qx (Qh (Qb (Qn ?_)))))
      exact ⟨Unit.unit, H, LessW.mk' ⟨Ao rfl, Ao rfl, Ao rfl, Ao rfl, tv⟩ ⟨rfl, rfl, tv⟩⟩
    ·rintro E m ⟨s15, H, hl⟩
     refine WC.lessW hl ?_
     replace H := (hK14 _).symm.trans H
     try dsimp only at H
     exact Wg (Wr 3 tk sg0 rfl rfl tv (Wn (Qn (⟨⟨(k12, IntKind.i64.wrap (s11 + 1)), H⟩, Nat.lt_succ_self _, Less.mk' ⟨rfl, rfl, rfl, rfl, tv⟩ ⟨rfl, rfl, tv⟩⟩))))
   replace H := of_f H h13
   refine WC.exit (Qx (Qx (Qh (Qn ?_))))
   refine Ws (Wg (Wr 2 tk sg0 rfl rfl tv ?_))
   obtain ⟨x24, hx24, H⟩ := of_bind H
   refine Wf [] (ref11_Of_0 _ _ hx24) ref11_Of_f rfl rfl tv rfl rfl rfl (Wr 7 tk sg0 rfl rfl tv (Wn (Qn (Ws (Wg (Wr 2 tk sg0 rfl rfl tv (Wn (Qn (Wc rfl (fun h25 => ?_) (fun h25 => ?_))))))))))
   ·replace H := of_t H h25
    refine Ws (Wg (Wr 6 tk sg0 rfl rfl tv (Wn (Qn (Wt (QB.r (QT.r (QT.r (QB.r (QT.r ?_))))))))))
    cases H
    exact Ea rfl rfl rfl tv
   replace H := of_f H h25
   refine Wk (Qb (Qn ?_))
   exact ⟨Unit.unit, H, LessW.mk' ⟨Ao rfl, Ao rfl, tv⟩ ⟨rfl, tv⟩⟩
  ·rintro E m ⟨s9, H, hl⟩
   refine WC.lessW hl ?_
   replace H := (hK8 _).symm.trans H
   try dsimp only at H
   exact Wg (Wr 3 tk sg0 rfl rfl tv (Wn (Qn (⟨⟨(k6, IntKind.i64.wrap (s5 + 1)), H⟩, Nat.lt_succ_self _, Less.mk' ⟨rfl, rfl, tv⟩ ⟨rfl, tv⟩⟩))))
 replace H := of_f H h7
 refine WC.exit (Qx (Qx (Qh (Qn ?_))))
 refine Ws (Wg (Wr 3 tk sg0 rfl rfl tv (Wn (Qn (Wt ?_)))))
 cases H
 exact Ea rfl rfl rfl tv
theorem ref12_Program_f : hasFunc Tryd.prog 25 Tryd.f25 := ⟨Tryd.func25, rfl, by kernel_rfl⟩

theorem ref12_Good_0 (a0 : T_api_Program) {r : Bool} (H : ref12_Good a0 = some r) : LJ.Spec Tryd.prog 13 [.d (.agg [slT enc_api_Decl a0.Decls, slT enc_sl_sl_api_Need a0.Waits, slT enc_api_Func a0.Funcs])] [] (.d (.bool r)) [] := by
 refine LJ.Spec.code Tryd.func13 rfl 14 rfl rfl [] rfl fun w0 F0 S0 B0 => ?_
 unfold ref12_Good at H
 refine Ws (Wg (We 101 tk ek eg0 rfl rfl rfl tv (Wr 1 tk sg0 rfl rfl tv (Wn (Qn (Ws (Wg (Wr 1 tk sg0 rfl rfl tv ?_))))))))
 obtain ⟨x1, hx1, H⟩ := of_bind H
 refine Wf [] (ref12_Program_0 _ hx1) ref12_Program_f rfl rfl tv rfl rfl rfl (Wr 7 tk sg0 rfl rfl tv (Wn (Qn (Ws (Wg (Wr 3 tk sg0 rfl rfl tv (Wn (Qn (Wt ?_)))))))))
 cases H
 exact Ea rfl rfl rfl tv
theorem ref12_Good_f : hasFunc Tryd.prog 13 Tryd.f13 := ⟨Tryd.func13, rfl, by kernel_rfl⟩

theorem law12_VerifyKinds_0 (a0 : T_api_Program) {r : Bool} (H : law12_VerifyKinds a0 = some r) : LJ.Spec Tryd.prog 4 [.d (.agg [slT enc_api_Decl a0.Decls, slT enc_sl_sl_api_Need a0.Waits, slT enc_api_Func a0.Funcs])] [] (.d (.bool r)) [] := by
 refine LJ.Spec.code Tryd.func4 rfl 153 rfl rfl [] rfl fun w0 F0 S0 B0 => ?_
 unfold law12_VerifyKinds at H
 refine Ws (Wg (We 101 tk ek eg0 rfl rfl rfl tv (Wr 1 tk sg0 rfl rfl tv (Wn (Qn (Ws (Wg (Wr 1 tk sg0 rfl rfl tv ?_))))))))
 obtain ⟨x1, hx1, H⟩ := of_bind H
 refine Wf [] (law10_Own_0 _ hx1) law10_Own_f rfl rfl tv rfl rfl rfl (We 0 tk ek eg0 rfl rfl rfl tv (Wn (Qn (Ws (Ws (Wg (Wr 1 tk sg0 rfl rfl tv ?_)))))))
 obtain ⟨x2, hx2, H⟩ := of_bind H
 refine Wf [] (law10_Own_0 _ hx2) law10_Own_f rfl rfl tv rfl rfl rfl ?_
 obtain ⟨x3, hx3, H⟩ := of_bind H
 refine Wf [] (verify_Program_0 _ hx3) verify_Program_f rfl rfl tv rfl rfl rfl (Wr 3 tk sg0 rfl rfl tv (Wa 103 tk rfl rfl rfl (We 0 tk ek eg0 rfl rfl rfl tv (Wr 1 tk sg0 rfl rfl tv (Wn (Qn (Ws (Wg (Wr 2 tk sg0 rfl rfl tv (Wn (Qn (Wc rfl (fun h4 => ?_) (fun h4 => ?_)))))))))))))
 ·replace H := of_t H h4
  refine Ws (Wg (Wr 1 tk sg0 rfl rfl tv ?_))
  obtain ⟨x5, hx5, H⟩ := of_bind H
  refine Wf [] (ref12_Good_0 _ hx5) ref12_Good_f rfl rfl tv rfl rfl rfl (Wr 2 tk sg0 rfl rfl tv ?_)
  obtain ⟨x6, hx6, H⟩ := of_bind H
  refine Wx 1 3 true tk [PSig.at' law12_lives_f ((!x5) = true) rfl (fun hb => law12_lives_0  (of_t hx6 hb))] rfl rfl (fun hb => ⟨⟨hb, rfl⟩, tv⟩) (Wr 2 tk sg0 rfl rfl ⟨by first | exact id | exact fun h => by rw [h]; rfl | simp_all, tv⟩ (Wn (Qn (Wt (QT.r ?_)))))
  cases H
  exact Ea rfl rfl rfl tv
 replace H := of_f H h4
 refine Wk (Qn (Ws (Ws (Wg (Wr 1 tk sg0 rfl rfl tv (Wn (Qn (Wb (Wl (ι := {x : Nat × Int // law12_VerifyKinds_l8 x1 x.1 x.2 = some r}) (fun x => [(1, .ptr 101 0), (5, .d (.int .i64 x.1.2))]) (fun x => [(101, .box 26 [.d (slT enc_api_Decl x1.Decls), .d (slT enc_sl_sl_api_Need x1.Waits), .d (slT enc_api_Func x1.Funcs)])]) (fun x => x.1.1) ⟨(fuel, 0), H⟩ (Less.mk' ⟨rfl, rfl, tv⟩ ⟨rfl, tv⟩) fun x => ?_)))))))))
 obtain ⟨⟨k8, s7⟩, H⟩ := x
 rcases k8 with _ | k8
 ·exact of_none H
 rw [law12_VerifyKinds_l8] at H
 refine Ws (Ws (Wg (Wr 5 tk sg0 rfl rfl tv (Wn (Qn (Wc rfl (fun h9 => ?_) (fun h9 => ?_)))))))
 ·replace H := of_t H h9
  refine Wk (Qn ?_)
  obtain ⟨K10, hK10, H⟩ := of_withK H
  refine WC.cut (fun E m => ∃ s11 : Unit, K10 s11 = some r ∧ LessW E m [(1, .ptr 101 0), (5, .d (.int .i64 s7))] [(101, .box 26 [.d (slT enc_api_Decl x1.Decls), .d (slT enc_sl_sl_api_Need x1.Waits), .d (slT enc_api_Func x1.Funcs)])]) ?_ ?_
  ·refine Wb (Ws (Wg (Wr 1 tk sg0 rfl rfl tv (Wn (Qn (Wb (Wl (ι := {x : Nat × Int // law12_VerifyKinds_l13 x1 s7 K10 x.1 x.2 = some r}) (fun x => [(1, .ptr 101 0), (5, .d (.int .i64 s7)), (6, .d (.int .i64 x.1.2))]) (fun x => [(101, .box 26 [.d (slT enc_api_Decl x1.Decls), .d (slT enc_sl_sl_api_Need x1.Waits), .d (slT enc_api_Func x1.Funcs)])]) (fun x => x.1.1) ⟨(fuel, 0), H⟩ (Less.mk' ⟨rfl, rfl, rfl, tv⟩ ⟨rfl, tv⟩) fun x => ?_)))))))
   obtain ⟨⟨k13, s12⟩, H⟩ := x
   rcases k13 with _ | k13
   ·exact of_none H
   rw [law12_VerifyKinds_l13] at H
   refine Ws (Ws (Wg ?_))
   obtain ⟨g14, H⟩ := of_need H
   refine Wr 9 tk sg0 rfl rfl ⟨⟨(nIn_ok g14).1, (nIn_ok g14).2, rfl⟩, tv⟩ (Wn (Qn (Wc rfl (fun h15 => ?_) (fun h15 => ?_))))
   ·replace H := of_t H h15
    refine Wk (Qn ?_)
    obtain ⟨K16, hK16, H⟩ := of_withK H
    refine WC.cut (fun E m => ∃ s17 : Unit, K16 s17 = some r ∧ LessW E m [(1, .ptr 101 0), (5, .d (.int .i64 s7)), (6, .d (.int .i64 s12))] [(101, .box 26 [.d (slT enc_api_Decl x1.Decls), .d (slT enc_sl_sl_api_Need x1.Waits), .d (slT enc_api_Func x1.Funcs)])]) ?_ ?_
    ·refine Wb (Ws (Wg ?_))
     obtain ⟨g18, H⟩ := of_need H
     obtain ⟨g19, H⟩ := of_need H
     refine Wr 9 tk sg0 rfl rfl ⟨⟨(nIn_ok g18).1, (nIn_ok g18).2, rfl⟩, ⟨(nIn_ok g19).1, (nIn_ok g19).2, rfl⟩, tv⟩ (Wa 107 tk rfl rfl rfl (We 0 tk ek eg0 rfl rfl rfl tv (Wn (Qn (Ws (Wg (Wr 1 tk sg0 rfl rfl tv (Wn (Qn (Ws (Ws (Wg (Wr 2 tk sg0 rfl rfl tv (Wn (Qn (Wb (Ws (Wg (Wr 2 tk sg0 rfl rfl tv (Wn (Qn (Wc rfl (fun h20 => ?_) (fun h20 => ?_)))))))))))))))))))))))
     ·replace H := of_t H h20
      refine Wg (Wr 1 tk sg0 rfl rfl tv (Wn (Qb (Qn ?_))))
      refine Ws (Ws (Wg (Wr 3 tk sg0 rfl rfl tv (WL.grun 7 2 true 76 tk sg0 rfl rfl rfl rfl tv ?_))))
      obtain ⟨g21, H⟩ := of_needS H
      refine Wx 9 9 false tk sg0 rfl rfl (fun hb => ⟨⟨(nIn_ok (g21 hb)).1, (nIn_ok (g21 hb)).2, rfl⟩, tv⟩) (WL.grun 1 2 true 76 tk sg0 rfl rfl rfl rfl ⟨by first | exact id | exact fun h => by rw [h]; rfl | simp_all, tv⟩ (WL.pickT rfl rfl rfl rfl rfl rfl (Wn (Qn (Wc rfl (fun h22 => ?_) (fun h22 => ?_))))))
      ·replace H := of_t H h22
       refine Ws (Wg (Wr 1 tk sg0 rfl rfl tv (Wn (Qn (Wt (QT.r (QB.r (QT.r (QT.r (QB.r (QB.r (QT.r (QT.r (QB.r (QT.r ?_)))))))))))))))
       cases H
       exact Ea rfl rfl rfl tv
      replace H := of_f H h22
      refine Wk (Qn (Ws (Hp (.one 0 true (.one 1 true (.one 2 true (.one 3 true (.one 4 true (.one 5 true (.one 6 true (.one 7 true (.one 8 true (.one 9 true (.one 10 true (.one 11 true (.one 12 true (.one 13 true (.one 14 true (.one 15 true (.one 16 true (.one 17 true (.one 18 true (.one 19 true (.one 20 true (.one 21 true (.one 22 true (.one 23 true (.one 24 true (.one 25 true (.one 26 true (.one 27 true (.one 28 true (.one 29 true (.one 30 true (.one 31 true (.one 32 true (.one 33 true (.one 34 true (.one 35 true (.one 36 true (.one 37 true (.one 38 true (.one 39 true (.one 40 true (.one 41 true (.one 42 true (.one 43 true (.one 44 true (.one 45 true (.one 46 true (.one 47 true (.one 48 true (.one 49 true (.one 50 true (.one 51 true (.one 52 true (.one 53 true (.one 54 true (.one 55 true (.one 56 true .done))))))))))))))))))))))))))))))))))))))))))))))))))))))))) [101, 107] [101, 107] rfl (by kernel_rfl) rfl (by kernel_rfl) rfl rfl (fun _ h => h) rfl rfl rfl (fun _ _ _ h => h) fun FK NK wK K => (Hr 4 tk rfl rfl rfl rfl tv (WH.sect 6 3 true tk rfl rfl rfl rfl (fun _ => tv) (Hr 2 tk rfl rfl rfl rfl ⟨by first | exact id | exact fun h => by rw [h]; rfl | simp_all, tv⟩ (WH.sect 4 11 false tk rfl rfl rfl rfl (fun _ => tv) (WH.sect 6 15 true tk rfl rfl rfl rfl (fun _ => tv) (WH.sect 1 11 false tk rfl rfl rfl rfl (fun hb => ⟨by first | exact id | exact ⟨hb, fun h => by rw [hb, h]; rfl⟩ | exact ⟨hb, id⟩ | exact fun h => by rw [hb, h]; rfl | exact fun h => by rw [h]; rfl | simp_all, tv⟩) (Hr 2 tk rfl rfl rfl rfl ⟨by first | exact id | exact fun h => by rw [h]; rfl | simp_all, tv⟩ (WH.sect 4 24 false tk rfl rfl rfl rfl (fun _ => tv) ?_)))))))))))
      obtain ⟨g23, H⟩ := of_needS H
      refine WH.sect 10 28 true tk rfl rfl rfl rfl (fun hb => ⟨⟨(nIn_ok (g23 hb)).1, (nIn_ok (g23 hb)).2, rfl⟩, tv⟩) (WH.sect 1 24 false tk rfl rfl rfl rfl (fun hb => ⟨by first | exact id | exact ⟨hb, fun h => by rw [hb, h]; rfl⟩ | exact ⟨hb, id⟩ | exact fun h => by rw [hb, h]; rfl | exact fun h => by rw [h]; rfl | simp_all, tv⟩) (Hr 2 tk rfl rfl rfl rfl ⟨by first | exact id | exact fun h => by rw [h]; rfl | simp_all, tv⟩ (WH.sect 4 41 false tk rfl rfl rfl rfl (fun _ => tv) ?_)))
      obtain ⟨g24, H⟩ := of_needS H
      refine WH.sect 9 45 true tk rfl rfl rfl rfl (fun hb => ⟨⟨(nIn_ok (g24 hb)).1, (nIn_ok (g24 hb)).2, rfl⟩, tv⟩) (WH.sect 1 41 false tk rfl rfl rfl rfl (fun hb => ⟨by first | exact id | exact ⟨hb, fun h => by rw [hb, h]; rfl⟩ | exact ⟨hb, id⟩ | exact fun h => by rw [hb, h]; rfl | exact fun h => by rw [h]; rfl | simp_all, tv⟩) (Hr 1 tk rfl rfl rfl rfl ⟨by first | exact id | exact fun h => by rw [h]; rfl | simp_all, tv⟩ (WH.nil rfl (Qn (Wc rfl (fun h25 => ?_) (fun h25 => ?_))))))
      ·replace H := of_t H h25
       refine Ws (Wg (Wr 1 tk sg0 rfl rfl tv (Wn (Qn (Wt (QB.r (QT.r (QT.r (QB.r (QB.r (QT.r (QT.r (QB.r (QT.r ?_))))))))))))))
       cases H
       exact Ea rfl rfl rfl tv
      replace H := of_f H h25
      refine Wk (Qb (Qn ?_))
      exact ⟨Unit.unit, H, LessW.mk' ⟨Ao rfl, Ao rfl, Ao rfl, tv⟩ ⟨rfl, tv⟩⟩
     replace H := of_f H h20
     refine Ws (Wg (Wr 2 tk sg0 rfl rfl tv (Wn (Qn (Wc rfl (fun h26 => ?_) (fun h26 => ?_))))))
     ·replace H := of_t H h26
      refine Wg (Wr 1 tk sg0 rfl rfl tv (Wn (Qb (Qn ?_))))
      refine Ws (Ws (Wg (Wr 3 tk sg0 rfl rfl tv (WL.grun 7 2 true 76 tk sg0 rfl rfl rfl rfl tv ?_))))
      obtain ⟨g27, H⟩ := of_needS H
      refine Wx 9 9 false tk sg0 rfl rfl (fun hb => ⟨⟨(nIn_ok (g27 hb)).1, (nIn_ok (g27 hb)).2, rfl⟩, tv⟩) (WL.grun 1 2 true 76 tk sg0 rfl rfl rfl rfl ⟨by first | exact id | exact fun h => by rw [h]; rfl | simp_all, tv⟩ (WL.pickT rfl rfl rfl rfl rfl rfl (Wn (Qn (Wc rfl (fun h28 => ?_) (fun h28 => ?_))))))
      ·replace H := of_t H h28
       refine Ws (Wg (Wr 1 tk sg0 rfl rfl tv (Wn (Qn (Wt (QT.r (QB.r (QT.r (QT.r (QB.r (QB.r (QT.r (QT.r (QB.r (QT.r ?_)))))))))))))))
       cases H
       exact Ea rfl rfl rfl tv
      replace H := of_f H h28
      refine Wk (Qn (Ws (Hp (.one 0 true (.one 1 true (.one 2 true (.one 3 true (.one 4 true (.one 5 true (.one 6 true (.one 7 true (.one 8 true (.one 9 true (.one 10 true (.one 11 true (.one 12 true (.one 13 true (.one 14 true (.one 15 true (.one 16 true (.one 17 true (.one 18 true (.one 19 true (.one 20 true (.one 21 true (.one 22 true (.one 23 true (.one 24 true (.one 25 true (.one 26 true (.one 27 true (.one 28 true (.one 29 true (.one 30 true (.one 31 true (.one 32 true (.one 33 true (.one 34 true (.one 35 true (.one 36 true (.one 37 true (.one 38 true (.one 39 true (.one 40 true (.one 41 true (.one 42 true (.one 43 true (.one 44 true (.one 45 true (.one 46 true (.one 47 true (.one 48 true (.one 49 true (.one 50 true (.one 51 true (.one 52 true (.one 53 true (.one 54 true (.one 55 true (.one 56 true .done))))))))))))))))))))))))))))))))))))))))))))))))))))))))) [101, 107] [101, 107] rfl (by kernel_rfl) rfl (by kernel_rfl) rfl rfl (fun _ h => h) rfl rfl rfl (fun _ _ _ h => h) fun FK NK wK K => (Hr 4 tk rfl rfl rfl rfl tv (WH.sect 6 3 true tk rfl rfl rfl rfl (fun _ => tv) (Hr 2 tk rfl rfl rfl rfl ⟨by first | exact id | exact fun h => by rw [h]; rfl | simp_all, tv⟩ (WH.sect 4 11 false tk rfl rfl rfl rfl (fun _ => tv) (WH.sect 6 15 true tk rfl rfl rfl rfl (fun _ => tv) (WH.sect 1 11 false tk rfl rfl rfl rfl (fun hb => ⟨by first | exact id | exact ⟨hb, fun h => by rw [hb, h]; rfl⟩ | exact ⟨hb, id⟩ | exact fun h => by rw [hb, h]; rfl | exact fun h => by rw [h]; rfl | simp_all, tv⟩) (Hr 2 tk rfl rfl rfl rfl ⟨by first | exact id | exact fun h => by rw [h]; rfl | simp_all, tv⟩ (WH.sect 4 24 false tk rfl rfl rfl rfl (fun _ => tv) ?_)))))))))))
      obtain ⟨g29, H⟩ := of_needS H
      refine WH.sect 10 28 true tk rfl rfl rfl rfl (fun hb => ⟨⟨(nIn_ok (g29 hb)).1, (nIn_ok (g29 hb)).2, rfl⟩, tv⟩) (WH.sect 1 24 false tk rfl rfl rfl rfl (fun hb => ⟨by first | exact id | exact ⟨hb, fun h => by rw [hb, h]; rfl⟩ | exact ⟨hb, id⟩ | exact fun h => by rw [hb, h]; rfl | exact fun h => by rw [h]; rfl | simp_all, tv⟩) (Hr 2 tk rfl rfl rfl rfl ⟨by first | exact id | exact fun h => by rw [h]; rfl | simp_all, tv⟩ (WH.sect 4 41 false tk rfl rfl rfl rfl (fun _ => tv) ?_)))
      obtain ⟨g30, H⟩ := of_needS H
      refine WH.sect 9 45 true tk rfl rfl rfl rfl (fun hb => ⟨⟨(nIn_ok (g30 hb)).1, (nIn_ok (g30 hb)).2, rfl⟩, tv⟩) (WH.sect 1 41 false tk rfl rfl rfl rfl (fun hb => ⟨by first | exact id | exact ⟨hb, fun h => by rw [hb, h]; rfl⟩ | exact ⟨hb, id⟩ | exact fun h => by rw [hb, h]; rfl | exact fun h => by rw [h]; rfl | simp_all, tv⟩) (Hr 1 tk rfl rfl rfl rfl ⟨by first | exact id | exact fun h => by rw [h]; rfl | simp_all, tv⟩ (WH.nil rfl (Qn (Wc rfl (fun h31 => ?_) (fun h31 => ?_))))))
      ·replace H := of_t H h31
       refine Ws (Wg (Wr 1 tk sg0 rfl rfl tv (Wn (Qn (Wt (QB.r (QT.r (QT.r (QB.r (QB.r (QT.r (QT.r (QB.r (QT.r ?_))))))))))))))
       cases H
       exact Ea rfl rfl rfl tv
      replace H := of_f H h31
      refine Wk (Qb (Qn ?_))
      exact ⟨Unit.unit, H, LessW.mk' ⟨Ao rfl, Ao rfl, Ao rfl, tv⟩ ⟨rfl, tv⟩⟩
     replace H := of_f H h26
     refine Ws (Ws (Wg (Wr 2 tk sg0 rfl rfl tv (Wn (Qn (Wc rfl (fun h32 => ?_) (fun h32 => ?_)))))))
     ·replace H := of_t H h32
      refine WC.known (g := 58) true rfl h32 (Wk (Qn (Wc rfl (fun h => ?_) (fun h => absurd h (by decide)))))
      refine Wg (Wr 1 tk sg0 rfl rfl tv (Wn (Qb (Qn ?_))))
      refine Ws (Ws (Wg (Wr 3 tk sg0 rfl rfl tv (WL.grun 7 2 true 76 tk sg0 rfl rfl rfl rfl tv ?_))))
      obtain ⟨g33, H⟩ := of_needS H
      refine Wx 9 9 false tk sg0 rfl rfl (fun hb => ⟨⟨(nIn_ok (g33 hb)).1, (nIn_ok (g33 hb)).2, rfl⟩, tv⟩) (WL.grun 1 2 true 76 tk sg0 rfl rfl rfl rfl ⟨by first | exact id | exact fun h => by rw [h]; rfl | simp_all, tv⟩ (WL.pickT rfl rfl rfl rfl rfl rfl (Wn (Qn (Wc rfl (fun h34 => ?_) (fun h34 => ?_))))))
      ·replace H := of_t H h34
       refine Ws (Wg (Wr 1 tk sg0 rfl rfl tv (Wn (Qn (Wt (QT.r (QB.r (QT.r (QT.r (QB.r (QB.r (QT.r (QT.r (QB.r (QT.r ?_)))))))))))))))
       cases H
       exact Ea rfl rfl rfl tv
      replace H := of_f H h34
      refine Wk (Qn (Ws (Hp (.one 0 true (.one 1 true (.one 2 true (.one 3 true (.one 4 true (.one 5 true (.one 6 true (.one 7 true (.one 8 true (.one 9 true (.one 10 true (.one 11 true (.one 12 true (.one 13 true (.one 14 true (.one 15 true (.one 16 true (.one 17 true (.one 18 true (.one 19 true (.one 20 true (.one 21 true (.one 22 true (.one 23 true (.one 24 true (.one 25 true (.one 26 true (.one 27 true (.one 28 true (.one 29 true (.one 30 true (.one 31 true (.one 32 true (.one 33 true (.one 34 true (.one 35 true (.one 36 true (.one 37 true (.one 38 true (.one 39 true (.one 40 true (.one 41 true (.one 42 true (.one 43 true (.one 44 true (.one 45 true (.one 46 true (.one 47 true (.one 48 true (.one 49 true (.one 50 true (.one 51 true (.one 52 true (.one 53 true (.one 54 true (.one 55 true (.one 56 true .done))))))))))))))))))))))))))))))))))))))))))))))))))))))))) [101, 107] [101, 107] rfl (by kernel_rfl) rfl (by kernel_rfl) rfl rfl (fun _ h => h) rfl rfl rfl (fun _ _ _ h => h) fun FK NK wK K => (Hr 4 tk rfl rfl rfl rfl tv (WH.sect 6 3 true tk rfl rfl rfl rfl (fun _ => tv) (Hr 2 tk rfl rfl rfl rfl ⟨by first | exact id | exact fun h => by rw [h]; rfl | simp_all, tv⟩ (WH.sect 4 11 false tk rfl rfl rfl rfl (fun _ => tv) (WH.sect 6 15 true tk rfl rfl rfl rfl (fun _ => tv) (WH.sect 1 11 false tk rfl rfl rfl rfl (fun hb => ⟨by first | exact id | exact ⟨hb, fun h => by rw [hb, h]; rfl⟩ | exact ⟨hb, id⟩ | exact fun h => by rw [hb, h]; rfl | exact fun h => by rw [h]; rfl | simp_all, tv⟩) (Hr 2 tk rfl rfl rfl rfl ⟨by first | exact id | exact fun h => by rw [h]; rfl | simp_all, tv⟩ (WH.sect 4 24 false tk rfl rfl rfl rfl (fun _ => tv) ?_)))))))))))
      obtain ⟨g35, H⟩ := of_needS H
      refine WH.sect 10 28 true tk rfl rfl rfl rfl (fun hb => ⟨⟨(nIn_ok (g35 hb)).1, (nIn_ok (g35 hb)).2, rfl⟩, tv⟩) (WH.sect 1 24 false tk rfl rfl rfl rfl (fun hb => ⟨by first | exact id | exact ⟨hb, fun h => by rw [hb, h]; rfl⟩ | exact ⟨hb, id⟩ | exact fun h => by rw [hb, h]; rfl | exact fun h => by rw [h]; rfl | simp_all, tv⟩) (Hr 2 tk rfl rfl rfl rfl ⟨by first | exact id | exact fun h => by rw [h]; rfl | simp_all, tv⟩ (WH.sect 4 41 false tk rfl rfl rfl rfl (fun _ => tv) ?_)))
      obtain ⟨g36, H⟩ := of_needS H
      refine WH.sect 9 45 true tk rfl rfl rfl rfl (fun hb => ⟨⟨(nIn_ok (g36 hb)).1, (nIn_ok (g36 hb)).2, rfl⟩, tv⟩) (WH.sect 1 41 false tk rfl rfl rfl rfl (fun hb => ⟨by first | exact id | exact ⟨hb, fun h => by rw [hb, h]; rfl⟩ | exact ⟨hb, id⟩ | exact fun h => by rw [hb, h]; rfl | exact fun h => by rw [h]; rfl | simp_all, tv⟩) (Hr 1 tk rfl rfl rfl rfl ⟨by first | exact id | exact fun h => by rw [h]; rfl | simp_all, tv⟩ (WH.nil rfl (Qn (Wc rfl (fun h37 => ?_) (fun h37 => ?_))))))
      ·replace H := of_t H h37
       refine Ws (Wg (Wr 1 tk sg0 rfl rfl tv (Wn (Qn (Wt (QB.r (QT.r (QT.r (QB.r (QB.r (QT.r (QT.r (QB.r (QT.r ?_))))))))))))))
       cases H
       exact Ea rfl rfl rfl tv
      replace H := of_f H h37
      refine Wk (Qb (Qn ?_))
      exact ⟨Unit.unit, H, LessW.mk' ⟨Ao rfl, Ao rfl, Ao rfl, tv⟩ ⟨rfl, tv⟩⟩
     replace H := of_f H h32
     refine Ws (Wg (Wr 2 tk sg0 rfl rfl tv (Wn (Qn (Wc rfl (fun h38 => ?_) (fun h38 => ?_))))))
     ·replace H := of_t H h38
      refine WC.known (g := 58) true rfl h38 (Wk (Qn (Wc rfl (fun h => ?_) (fun h => absurd h (by decide)))))
      refine Wg (Wr 1 tk sg0 rfl rfl tv (Wn (Qb (Qn ?_))))
      refine Ws (Ws (Wg (Wr 3 tk sg0 rfl rfl tv (WL.grun 7 2 true 76 tk sg0 rfl rfl rfl rfl tv ?_))))
      obtain ⟨g39, H⟩ := of_needS H
      refine Wx 9 9 false tk sg0 rfl rfl (fun hb => ⟨⟨(nIn_ok (g39 hb)).1, (nIn_ok (g39 hb)).2, rfl⟩, tv⟩) (WL.grun 1 2 true 76 tk sg0 rfl rfl rfl rfl ⟨by first | exact id | exact fun h => by rw [h]; rfl | simp_all, tv⟩ (WL.pickT rfl rfl rfl rfl rfl rfl (Wn (Qn (Wc rfl (fun h40 => ?_) (fun h40 => ?_))))))
      ·replace H := of_t H h40
       refine Ws (Wg (Wr 1 tk sg0 rfl rfl tv (Wn (Qn (Wt (QT.r (QB.r (QT.r (QT.r (QB.r (QB.r (QT.r (QT.r (QB.r (QT.r ?_)))))))))))))))
       cases H
       exact Ea rfl rfl rfl tv
      replace H := of_f H h40
      refine Wk (Qn (Ws (Hp (.one 0 true (.one 1 true (.one 2 true (.one 3 true (.one 4 true (.one 5 true (.one 6 true (.one 7 true (.one 8 true (.one 9 true (.one 10 true (.one 11 true (.one 12 true (.one 13 true (.one 14 true (.one 15 true (.one 16 true (.one 17 true (.one 18 true (.one 19 true (.one 20 true (.one 21 true (.one 22 true (.one 23 true (.one 24 true (.one 25 true (.one 26 true (.one 27 true (.one 28 true (.one 29 true (.one 30 true (.one 31 true (.one 32 true (.one 33 true (.one 34 true (.one 35 true (.one 36 true (.one 37 true (.one 38 true (.one 39 true (.one 40 true (.one 41 true (.one 42 true (.one 43 true (.one 44 true (.one 45 true (.one 46 true (.one 47 true (.one 48 true (.one 49 true (.one 50 true (.one 51 true (.one 52 true (.one 53 true (.one 54 true (.one 55 true (.one 56 true .done))))))))))))))))))))))))))))))))))))))))))))))))))))))))) [101, 107] [101, 107] rfl (by kernel_rfl) rfl (by kernel_rfl) rfl rfl (fun _ h => h) rfl rfl rfl (fun _ _ _ h => h) fun FK NK wK K => (Hr 4 tk rfl rfl rfl rfl tv (WH.sect 6 3 true tk rfl rfl rfl rfl (fun _ => tv) (Hr 2 tk rfl rfl rfl rfl ⟨by first | exact id | exact fun h => by rw [h]; rfl | simp_all, tv⟩ (WH.sect 4 11 false tk rfl rfl rfl rfl (fun _ => tv) (WH.sect 6 15 true tk rfl rfl rfl rfl (fun _ => tv) (WH.sect 1 11 false tk rfl rfl rfl rfl (fun hb => ⟨by first | exact id | exact ⟨hb, fun h => by rw [hb, h]; rfl⟩ | exact ⟨hb, id⟩ | exact fun h => by rw [hb, h]; rfl | exact fun h => by rw [h]; rfl | simp_all, tv⟩) (Hr 2 tk rfl rfl rfl rfl ⟨by first | exact id | exact fun h => by rw [h]; rfl | simp_all, tv⟩ (WH.sect 4 24 false tk rfl rfl rfl rfl (fun _ => tv) ?_)))))))))))
      obtain ⟨g41, H⟩ := of_needS H
      refine WH.sect 10 28 true tk rfl rfl rfl rfl (fun hb => ⟨⟨(nIn_ok (g41 hb)).1, (nIn_ok (g41 hb)).2, rfl⟩, tv⟩) (WH.sect 1 24 false tk rfl rfl rfl rfl (fun hb => ⟨by first | exact id | exact ⟨hb, fun h => by rw [hb, h]; rfl⟩ | exact ⟨hb, id⟩ | exact fun h => by rw [hb, h]; rfl | exact fun h => by rw [h]; rfl | simp_all, tv⟩) (Hr 2 tk rfl rfl rfl rfl ⟨by first | exact id | exact fun h => by rw [h]; rfl | simp_all, tv⟩ (WH.sect 4 41 false tk rfl rfl rfl rfl (fun _ => tv) ?_)))
      obtain ⟨g42, H⟩ := of_needS H
      refine WH.sect 9 45 true tk rfl rfl rfl rfl (fun hb => ⟨⟨(nIn_ok (g42 hb)).1, (nIn_ok (g42 hb)).2, rfl⟩, tv⟩) (WH.sect 1 41 false tk rfl rfl rfl rfl (fun hb => ⟨by first | exact id | exact ⟨hb, fun h => by rw [hb, h]; rfl⟩ | exact ⟨hb, id⟩ | exact fun h => by rw [hb, h]; rfl | exact fun h => by rw [h]; rfl | simp_all, tv⟩) (Hr 1 tk rfl rfl rfl rfl ⟨by first | exact id | exact fun h => by rw [h]; rfl | simp_all, tv⟩ (WH.nil rfl (Qn (Wc rfl (fun h43 => ?_) (fun h43 => ?_))))))
      ·replace H := of_t H h43
       refine Ws (Wg (Wr 1 tk sg0 rfl rfl tv (Wn (Qn (Wt (QB.r (QT.r (QT.r (QB.r (QB.r (QT.r (QT.r (QB.r (QT.r ?_))))))))))))))
       cases H
       exact Ea rfl rfl rfl tv
      replace H := of_f H h43
      refine Wk (Qb (Qn ?_))
      exact ⟨Unit.unit, H, LessW.mk' ⟨Ao rfl, Ao rfl, Ao rfl, tv⟩ ⟨rfl, tv⟩⟩
     replace H := of_f H h38
     refine Ws (Wg (Wr 2 tk sg0 rfl rfl tv (Wn (Qn (Wc rfl (fun h44 => ?_) (fun h44 => ?_))))))
     ·replace H := of_t H h44
      refine WC.known (g := 58) true rfl h44 (Wk (Qn (Wc rfl (fun h => ?_) (fun h => absurd h (by decide)))))
      refine Wg (Wr 1 tk sg0 rfl rfl tv (Wn (Qb (Qn ?_))))
      refine Ws (Ws (Wg (Wr 3 tk sg0 rfl rfl tv (WL.grun 7 2 true 76 tk sg0 rfl rfl rfl rfl tv ?_))))
      obtain ⟨g45, H⟩ := of_needS H
      refine Wx 9 9 false tk sg0 rfl rfl (fun hb => ⟨⟨(nIn_ok (g45 hb)).1, (nIn_ok (g45 hb)).2, rfl⟩, tv⟩) (WL.grun 1 2 true 76 tk sg0 rfl rfl rfl rfl ⟨by first | exact id | exact fun h => by rw [h]; rfl | simp_all, tv⟩ (WL.pickT rfl rfl rfl rfl rfl rfl (Wn (Qn (Wc rfl (fun h46 => ?_) (fun h46 => ?_))))))
      ·replace H := of_t H h46
       refine Ws (Wg (Wr 1 tk sg0 rfl rfl tv (Wn (Qn (Wt (QT.r (QB.r (QT.r (QT.r (QB.r (QB.r (QT.r (QT.r (QB.r (QT.r ?_)))))))))))))))
       cases H
       exact Ea rfl rfl rfl tv
      replace H := of_f H h46
      refine Wk (Qn (Ws (Hp (.one 0 true (.one 1 true (.one 2 true (.one 3 true (.one 4 true (.one 5 true (.one 6 true (.one 7 true (.one 8 true (.one 9 true (.one 10 true (.one 11 true (.one 12 true (.one 13 true (.one 14 true (.one 15 true (.one 16 true (.one 17 true (.one 18 true (.one 19 true (.one 20 true (.one 21 true (.one 22 true (.one 23 true (.one 24 true (.one 25 true (.one 26 true (.one 27 true (.one 28 true (.one 29 true (.one 30 true (.one 31 true (.one 32 true (.one 33 true (.one 34 true (.one 35 true (.one 36 true (.one 37 true (.one 38 true (.one 39 true (.one 40 true (.one 41 true (.one 42 true (.one 43 true (.one 44 true (.one 45 true (.one 46 true (.one 47 true (.one 48 true (.one 49 true (.one 50 true (.one 51 true (.one 52 true (.one 53 true (.one 54 true (.one 55 true (.one 56 true .done))))))))))))))))))))))))))))))))))))))))))))))))))))))))) [101, 107] [101, 107] rfl (by kernel_rfl) rfl (by kernel_rfl) rfl rfl (fun _ h => h) rfl rfl rfl (fun _ _ _ h => h) fun FK NK wK K => (Hr 4 tk rfl rfl rfl rfl tv (WH.sect 6 3 true tk rfl rfl rfl rfl (fun _ => tv) (Hr 2 tk rfl rfl rfl rfl ⟨by first | exact id | exact fun h => by rw [h]; rfl | simp_all, tv⟩ (WH.sect 4 11 false tk rfl rfl rfl rfl (fun _ => tv) (WH.sect 6 15 true tk rfl rfl rfl rfl (fun _ => tv) (WH.sect 1 11 false tk rfl rfl rfl rfl (fun hb => ⟨by first | exact id | exact ⟨hb, fun h => by rw [hb, h]; rfl⟩ | exact ⟨hb, id⟩ | exact fun h => by rw [hb, h]; rfl | exact fun h => by rw [h]; rfl | simp_all, tv⟩) (Hr 2 tk rfl rfl rfl rfl ⟨by first | exact id | exact fun h => by rw [h]; rfl | simp_all, tv⟩ (WH.sect 4 24 false tk rfl rfl rfl rfl (fun _ => tv) ?_)))))))))))
      obtain ⟨g47, H⟩ := of_needS H
      refine WH.sect 10 28 true tk rfl rfl rfl rfl (fun hb => ⟨⟨(nIn_ok (g47 hb)).1, (nIn_ok (g47 hb)).2, rfl⟩, tv⟩) (WH.sect 1 24 false tk rfl rfl rfl rfl (fun hb => ⟨by first | exact id | exact ⟨hb, fun h => by rw [hb, h]; rfl⟩ | exact ⟨hb, id⟩ | exact fun h => by rw [hb, h]; rfl | exact fun h => by rw [h]; rfl | simp_all, tv⟩) (Hr 2 tk rfl rfl rfl rfl ⟨by first | exact id | exact fun h => by rw [h]; rfl | simp_all, tv⟩ (WH.sect 4 41 false tk rfl rfl rfl rfl (fun _ => tv) ?_)))
      obtain ⟨g48, H⟩ := of_needS H
      refine WH.sect 9 45 true tk rfl rfl rfl rfl (fun hb => ⟨⟨(nIn_ok (g48 hb)).1, (nIn_ok (g48 hb)).2, rfl⟩, tv⟩) (WH.sect 1 41 false tk rfl rfl rfl rfl (fun hb => ⟨by first | exact id | exact ⟨hb, fun h => by rw [hb, h]; rfl⟩ | exact ⟨hb, id⟩ | exact fun h => by rw [hb, h]; rfl | exact fun h => by rw [h]; rfl | simp_all, tv⟩) (Hr 1 tk rfl rfl rfl rfl ⟨by first | exact id | exact fun h => by rw [h]; rfl | simp_all, tv⟩ (WH.nil rfl (Qn (Wc rfl (fun h49 => ?_) (fun h49 => ?_))))))
      ·replace H := of_t H h49
       refine Ws (Wg (Wr 1 tk sg0 rfl rfl tv (Wn (Qn (Wt (QB.r (QT.r (QT.r (QB.r (QB.r (QT.r (QT.r (QB.r (QT.r ?_))))))))))))))
       cases H
       exact Ea rfl rfl rfl tv
      replace H := of_f H h49
      refine Wk (Qb (Qn ?_))
      exact ⟨Unit.unit, H, LessW.mk' ⟨Ao rfl, Ao rfl, Ao rfl, tv⟩ ⟨rfl, tv⟩⟩
     replace H := of_f H h44
     refine Wg (Wr 2 tk sg0 rfl rfl tv (Wn (Qn (Wc rfl (fun h50 => ?_) (fun h50 => ?_)))))
     ·replace H := of_t H h50
      refine Wg (Wr 1 tk sg0 rfl rfl tv (Wn (Qb (Qn ?_))))
      refine Ws (Ws (Wg (Wr 3 tk sg0 rfl rfl tv (WL.grun 7 2 true 76 tk sg0 rfl rfl rfl rfl tv ?_))))
      obtain ⟨g51, H⟩ := of_needS H
      refine Wx 9 9 false tk sg0 rfl rfl (fun hb => ⟨⟨(nIn_ok (g51 hb)).1, (nIn_ok (g51 hb)).2, rfl⟩, tv⟩) (WL.grun 1 2 true 76 tk sg0 rfl rfl rfl rfl ⟨by first | exact id | exact fun h => by rw [h]; rfl | simp_all, tv⟩ (WL.pickT rfl rfl rfl rfl rfl rfl (Wn (Qn (Wc rfl (fun h52 => ?_) (fun h52 => ?_))))))
      ·replace H := of_t H h52
       refine Ws (Wg (Wr 1 tk sg0 rfl rfl tv (Wn (Qn (Wt (QT.r (QB.r (QT.r (QT.r (QB.r (QB.r (QT.r (QT.r (QB.r (QT.r ?_)))))))))))))))
       cases H
       exact Ea rfl rfl rfl tv
      replace H := of_f H h52
      refine Wk (Qn (Ws (Hp (.one 0 true (.one 1 true (.one 2 true (.one 3 true (.one 4 true (.one 5 true (.one 6 true (.one 7 true (.one 8 true (.one 9 true (.one 10 true (.one 11 true (.one 12 true (.one 13 true (.one 14 true (.one 15 true (.one 16 true (.one 17 true (.one 18 true (.one 19 true (.one 20 true (.one 21 true (.one 22 true (.one 23 true (.one 24 true (.one 25 true (.one 26 true (.one 27 true (.one 28 true (.one 29 true (.one 30 true (.one 31 true (.one 32 true (.one 33 true (.one 34 true (.one 35 true (.one 36 true (.one 37 true (.one 38 true (.one 39 true (.one 40 true (.one 41 true (.one 42 true (.one 43 true (.one 44 true (.one 45 true (.one 46 true (.one 47 true (.one 48 true (.one 49 true (.one 50 true (.one 51 true (.one 52 true (.one 53 true (.one 54 true (.one 55 true (.one 56 true .done))))))))))))))))))))))))))))))))))))))))))))))))))))))))) [101, 107] [101, 107] rfl (by kernel_rfl) rfl (by kernel_rfl) rfl rfl (fun _ h => h) rfl rfl rfl (fun _ _ _ h => h) fun FK NK wK K => (Hr 4 tk rfl rfl rfl rfl tv (WH.sect 6 3 true tk rfl rfl rfl rfl (fun _ => tv) (Hr 2 tk rfl rfl rfl rfl ⟨by first | exact id | exact fun h => by rw [h]; rfl | simp_all, tv⟩ (WH.sect 4 11 false tk rfl rfl rfl rfl (fun _ => tv) (WH.sect 6 15 true tk rfl rfl rfl rfl (fun _ => tv) (WH.sect 1 11 false tk rfl rfl rfl rfl (fun hb => ⟨by first | exact id | exact ⟨hb, fun h => by rw [hb, h]; rfl⟩ | exact ⟨hb, id⟩ | exact fun h => by rw [hb, h]; rfl | exact fun h => by rw [h]; rfl | simp_all, tv⟩) (Hr 2 tk rfl rfl rfl rfl ⟨by first | exact id | exact fun h => by rw [h]; rfl | simp_all, tv⟩ (WH.sect 4 24 false tk rfl rfl rfl rfl (fun _ => tv) ?_)))))))))))
      obtain ⟨g53, H⟩ := of_needS H
      refine WH.sect 10 28 true tk rfl rfl rfl rfl (fun hb => ⟨⟨(nIn_ok (g53 hb)).1, (nIn_ok (g53 hb)).2, rfl⟩, tv⟩) (WH.sect 1 24 false tk rfl rfl rfl rfl (fun hb => ⟨by first | exact id | exact ⟨hb, fun h => by rw [hb, h]; rfl⟩ | exact ⟨hb, id⟩ | exact fun h => by rw [hb, h]; rfl | exact fun h => by rw [h]; rfl | simp_all, tv⟩) (Hr 2 tk rfl rfl rfl rfl ⟨by first | exact id | exact fun h => by rw [h]; rfl | simp_all, tv⟩ (WH.sect 4 41 false tk rfl rfl rfl rfl (fun _ => tv) ?_)))
      obtain ⟨g54, H⟩ := of_needS H
      refine WH.sect 9 45 true tk rfl rfl rfl rfl (fun hb => ⟨⟨(nIn_ok (g54 hb)).1, (nIn_ok (g54 hb)).2, rfl⟩, tv⟩) (WH.sect 1 41 false tk rfl rfl rfl rfl (fun hb => ⟨by first | exact id | exact ⟨hb, fun h => by rw [hb, h]; rfl⟩ | exact ⟨hb, id⟩ | exact fun h => by rw [hb, h]; rfl | exact fun h => by rw [h]; rfl | simp_all, tv⟩) (Hr 1 tk rfl rfl rfl rfl ⟨by first | exact id | exact fun h => by rw [h]; rfl | simp_all, tv⟩ (WH.nil rfl (Qn (Wc rfl (fun h55 => ?_) (fun h55 => ?_))))))
      ·replace H := of_t H h55
       refine Ws (Wg (Wr 1 tk sg0 rfl rfl tv (Wn (Qn (Wt (QB.r (QT.r (QT.r (QB.r (QB.r (QT.r (QT.r (QB.r (QT.r ?_))))))))))))))
       cases H
       exact Ea rfl rfl rfl tv
      replace H := of_f H h55
      refine Wk (Qb (Qn ?_))
      exact ⟨Unit.unit, H, LessW.mk' ⟨Ao rfl, Ao rfl, Ao rfl, tv⟩ ⟨rfl, tv⟩⟩
     replace H := of_f H h50
     refine Ws (Ws (Wg (Wr 2 tk sg0 rfl rfl tv (Wn (Qn (Wc rfl (fun h56 => ?_) (fun h56 => ?_)))))))
     ·replace H := of_t H h56
      refine WC.known (g := 63) true rfl h56 (Wk (Qn (Wc rfl (fun h => ?_) (fun h => absurd h (by decide)))))
      refine Wg (Wr 1 tk sg0 rfl rfl tv (Wn (Qb (Qn ?_))))
      refine Ws (Ws (Wg (Wr 3 tk sg0 rfl rfl tv (WL.grun 7 2 true 76 tk sg0 rfl rfl rfl rfl tv ?_))))
      obtain ⟨g57, H⟩ := of_needS H
      refine Wx 9 9 false tk sg0 rfl rfl (fun hb => ⟨⟨(nIn_ok (g57 hb)).1, (nIn_ok (g57 hb)).2, rfl⟩, tv⟩) (WL.grun 1 2 true 76 tk sg0 rfl rfl rfl rfl ⟨by first | exact id | exact fun h => by rw [h]; rfl | simp_all, tv⟩ (WL.pickT rfl rfl rfl rfl rfl rfl (Wn (Qn (Wc rfl (fun h58 => ?_) (fun h58 => ?_))))))
      ·replace H := of_t H h58
       refine Ws (Wg (Wr 1 tk sg0 rfl rfl tv (Wn (Qn (Wt (QT.r (QB.r (QT.r (QT.r (QB.r (QB.r (QT.r (QT.r (QB.r (QT.r ?_)))))))))))))))
       cases H
       exact Ea rfl rfl rfl tv
      replace H := of_f H h58
      refine Wk (Qn (Ws (Hp (.one 0 true (.one 1 true (.one 2 true (.one 3 true (.one 4 true (.one 5 true (.one 6 true (.one 7 true (.one 8 true (.one 9 true (.one 10 true (.one 11 true (.one 12 true (.one 13 true (.one 14 true (.one 15 true (.one 16 true (.one 17 true (.one 18 true (.one 19 true (.one 20 true (.one 21 true (.one 22 true (.one 23 true (.one 24 true (.one 25 true (.one 26 true (.one 27 true (.one 28 true (.one 29 true (.one 30 true (.one 31 true (.one 32 true (.one 33 true (.one 34 true (.one 35 true (.one 36 true (.one 37 true (.one 38 true (.one 39 true (.one 40 true (.one 41 true (.one 42 true (.one 43 true (.one 44 true (.one 45 true (.one 46 true (.one 47 true (.one 48 true (.one 49 true (.one 50 true (.one 51 true (.one 52 true (.one 53 true (.one 54 true (.one 55 true (.one 56 true .done))))))))))))))))))))))))))))))))))))))))))))))))))))))))) [101, 107] [101, 107] rfl (by kernel_rfl) rfl (by kernel_rfl) rfl rfl (fun _ h => h) rfl rfl rfl (fun _ _ _ h => h) fun FK NK wK K => (Hr 4 tk rfl rfl rfl rfl tv (WH.sect 6 3 true tk rfl rfl rfl rfl (fun _ => tv) (Hr 2 tk rfl rfl rfl rfl ⟨by first | exact id | exact fun h => by rw [h]; rfl | simp_all, tv⟩ (WH.sect 4 11 false tk rfl rfl rfl rfl (fun _ => tv) (WH.sect 6 15 true tk rfl rfl rfl rfl (fun _ => tv) (WH.sect 1 11 false tk rfl rfl rfl rfl (fun hb => ⟨by first | exact id | exact ⟨hb, fun h => by rw [hb, h]; rfl⟩ | exact ⟨hb, id⟩ | exact fun h => by rw [hb, h]; rfl | exact fun h => by rw [h]; rfl | simp_all, tv⟩) (Hr 2 tk rfl rfl rfl rfl ⟨by first | exact id | exact fun h => by rw [h]; rfl | simp_all, tv⟩ (WH.sect 4 24 false tk rfl rfl rfl rfl (fun _ => tv) ?_)))))))))))
      obtain ⟨g59, H⟩ := of_needS H
      refine WH.sect 10 28 true tk rfl rfl rfl rfl (fun hb => ⟨⟨(nIn_ok (g59 hb)).1, (nIn_ok (g59 hb)).2, rfl⟩, tv⟩) (WH.sect 1 24 false tk rfl rfl rfl rfl (fun hb => ⟨by first | exact id | exact ⟨hb, fun h => by rw [hb, h]; rfl⟩ | exact ⟨hb, id⟩ | exact fun h => by rw [hb, h]; rfl | exact fun h => by rw [h]; rfl | simp_all, tv⟩) (Hr 2 tk rfl rfl rfl rfl ⟨by first | exact id | exact fun h => by rw [h]; rfl | simp_all, tv⟩ (WH.sect 4 41 false tk rfl rfl rfl rfl (fun _ => tv) ?_)))
      obtain ⟨g60, H⟩ := of_needS H
      refine WH.sect 9 45 true tk rfl rfl rfl rfl (fun hb => ⟨⟨(nIn_ok (g60 hb)).1, (nIn_ok (g60 hb)).2, rfl⟩, tv⟩) (WH.sect 1 41 false tk rfl rfl rfl rfl (fun hb => ⟨by first | exact id | exact ⟨hb, fun h => by rw [hb, h]; rfl⟩ | exact ⟨hb, id⟩ | exact fun h => by rw [hb, h]; rfl | exact fun h => by rw [h]; rfl | simp_all, tv⟩) (Hr 1 tk rfl rfl rfl rfl ⟨by first | exact id | exact fun h => by rw [h]; rfl | simp_all, tv⟩ (WH.nil rfl (Qn (Wc rfl (fun h61 => ?_) (fun h61 => ?_))))))
      ·replace H := of_t H h61
       refine Ws (Wg (Wr 1 tk sg0 rfl rfl tv (Wn (Qn (Wt (QB.r (QT.r (QT.r (QB.r (QB.r (QT.r (QT.r (QB.r (QT.r ?_))))))))))))))
       cases H
       exact Ea rfl rfl rfl tv
      replace H := of_f H h61
      refine Wk (Qb (Qn ?_))
      exact ⟨Unit.unit, H, LessW.mk' ⟨Ao rfl, Ao rfl, Ao rfl, tv⟩ ⟨rfl, tv⟩⟩
     replace H := of_f H h56
     refine Ws (Wg (Wr 2 tk sg0 rfl rfl tv (Wn (Qn (Wc rfl (fun h62 => ?_) (fun h62 => ?_))))))
     ·replace H := of_t H h62
      refine WC.known (g := 63) true rfl h62 (Wk (Qn (Wc rfl (fun h => ?_) (fun h => absurd h (by decide)))))
      refine Wg (Wr 1 tk sg0 rfl rfl tv (Wn (Qb (Qn ?_))))
      refine Ws (Ws (Wg (Wr 3 tk sg0 rfl rfl tv (WL.grun 7 2 true 76 tk sg0 rfl rfl rfl rfl tv ?_))))
      obtain ⟨g63, H⟩ := of_needS H
      refine Wx 9 9 false tk sg0 rfl rfl (fun hb => ⟨⟨(nIn_ok (g63 hb)).1, (nIn_ok (g63 hb)).2, rfl⟩, tv⟩) (WL.grun 1 2 true 76 tk sg0 rfl rfl rfl rfl ⟨by first | exact id | exact fun h => by rw [h]; rfl | simp_all, tv⟩ (WL.pickT rfl rfl rfl rfl rfl rfl (Wn (Qn (Wc rfl (fun h64 => ?_) (fun h64 => ?_))))))
      ·replace H := of_t H h64
       refine Ws (Wg (Wr 1 tk sg0 rfl rfl tv (Wn (Qn (Wt (QT.r (QB.r (QT.r (QT.r (QB.r (QB.r (QT.r (QT.r (QB.r (QT.r ?_)))))))))))))))
       cases H
       exact Ea rfl rfl rfl tv
      replace H := of_f H h64
      refine Wk (Qn (Ws (Hp (.one 0 true (.one 1 true (.one 2 true (.one 3 true (.one 4 true (.one 5 true (.one 6 true (.one 7 true (.one 8 true (.one 9 true (.one 10 true (.one 11 true (.one 12 true (.one 13 true (.one 14 true (.one 15 true (.one 16 true (.one 17 true (.one 18 true (.one 19 true (.one 20 true (.one 21 true (.one 22 true (.one 23 true (.one 24 true (.one 25 true (.one 26 true (.one 27 true (.one 28 true (.one 29 true (.one 30 true (.one 31 true (.one 32 true (.one 33 true (.one 34 true (.one 35 true (.one 36 true (.one 37 true (.one 38 true (.one 39 true (.one 40 true (.one 41 true (.one 42 true (.one 43 true (.one 44 true (.one 45 true (.one 46 true (.one 47 true (.one 48 true (.one 49 true (.one 50 true (.one 51 true (.one 52 true (.one 53 true (.one 54 true (.one 55 true (.one 56 true .done))))))))))))))))))))))))))))))))))))))))))))))))))))))))) [101, 107] [101, 107] rfl (by kernel_rfl) rfl (by kernel_rfl) rfl rfl (fun _ h => h) rfl rfl rfl (fun _ _ _ h => h) fun FK NK wK K => (Hr 4 tk rfl rfl rfl rfl tv (WH.sect 6 3 true tk rfl rfl rfl rfl (fun _ => tv) (Hr 2 tk rfl rfl rfl rfl ⟨by first | exact id | exact fun h => by rw [h]; rfl | simp_all, tv⟩ (WH.sect 4 11 false tk rfl rfl rfl rfl (fun _ => tv) (WH.sect 6 15 true tk rfl rfl rfl rfl (fun _ => tv) (WH.sect 1 11 false tk rfl rfl rfl rfl (fun hb => ⟨by first | exact id | exact ⟨hb, fun h => by rw [hb, h]; rfl⟩ | exact ⟨hb, id⟩ | exact fun h => by rw [hb, h]; rfl | exact fun h => by rw [h]; rfl | simp_all, tv⟩) (Hr 2 tk rfl rfl rfl rfl ⟨by first | exact id | exact fun h => by rw [h]; rfl | simp_all, tv⟩ (WH.sect 4 24 false tk rfl rfl rfl rfl (fun _ => tv) ?_)))))))))))
      obtain ⟨g65, H⟩ := of_needS H
      refine WH.sect 10 28 true tk rfl rfl rfl rfl (fun hb => ⟨⟨(nIn_ok (g65 hb)).1, (nIn_ok (g65 hb)).2, rfl⟩, tv⟩) (WH.sect 1 24 false tk rfl rfl rfl rfl (fun hb => ⟨by first | exact id | exact ⟨hb, fun h => by rw [hb, h]; rfl⟩ | exact ⟨hb, id⟩ | exact fun h => by rw [hb, h]; rfl | exact fun h => by rw [h]; rfl | simp_all, tv⟩) (Hr 2 tk rfl rfl rfl rfl ⟨by first | exact id | exact fun h => by rw [h]; rfl | simp_all, tv⟩ (WH.sect 4 41 false tk rfl rfl rfl rfl (fun _ => tv) ?_)))
      obtain ⟨g66, H⟩ := of_needS H
      refine WH.sect 9 45 true tk rfl rfl rfl rfl (fun hb => ⟨⟨(nIn_ok (g66 hb)).1, (nIn_ok (g66 hb)).2, rfl⟩, tv⟩) (WH.sect 1 41 false tk rfl rfl rfl rfl (fun hb => ⟨by first | exact id | exact ⟨hb, fun h => by rw [hb, h]; rfl⟩ | exact ⟨hb, id⟩ | exact fun h => by rw [hb, h]; rfl | exact fun h => by rw [h]; rfl | simp_all, tv⟩) (Hr 1 tk rfl rfl rfl rfl ⟨by first | exact id | exact fun h => by rw [h]; rfl | simp_all, tv⟩ (WH.nil rfl (Qn (Wc rfl (fun h67 => ?_) (fun h67 => ?_))))))
      ·replace H := of_t H h67
       refine Ws (Wg (Wr 1 tk sg0 rfl rfl tv (Wn (Qn (Wt (QB.r (QT.r (QT.r (QB.r (QB.r (QT.r (QT.r (QB.r (QT.r ?_))))))))))))))
       cases H
       exact Ea rfl rfl rfl tv
      replace H := of_f H h67
      refine Wk (Qb (Qn ?_))
      exact ⟨Unit.unit, H, LessW.mk' ⟨Ao rfl, Ao rfl, Ao rfl, tv⟩ ⟨rfl, tv⟩⟩
     replace H := of_f H h62
     refine Ws (Wg (Wr 2 tk sg0 rfl rfl tv (Wn (Qn (Wc rfl (fun h68 => ?_) (fun h68 => ?_))))))
     ·replace H := of_t H h68
      refine WC.known (g := 63) true rfl h68 (Wk (Qn (Wc rfl (fun h => ?_) (fun h => absurd h (by decide)))))
      refine Wg (Wr 1 tk sg0 rfl rfl tv (Wn (Qb (Qn ?_))))
      refine Ws (Ws (Wg (Wr 3 tk sg0 rfl rfl tv (WL.grun 7 2 true 76 tk sg0 rfl rfl rfl rfl tv ?_))))
      obtain ⟨g69, H⟩ := of_needS H
      refine Wx 9 9 false tk sg0 rfl rfl (fun hb => ⟨⟨(nIn_ok (g69 hb)).1, (nIn_ok (g69 hb)).2, rfl⟩, tv⟩) (WL.grun 1 2 true 76 tk sg0 rfl rfl rfl rfl ⟨by first | exact id | exact fun h => by rw [h]; rfl | simp_all, tv⟩ (WL.pickT rfl rfl rfl rfl rfl rfl (Wn (Qn (Wc rfl (fun h70 => ?_) (fun h70 => ?_))))))
      ·replace H := of_t H h70
       refine Ws (Wg (Wr 1 tk sg0 rfl rfl tv (Wn (Qn (Wt (QT.r (QB.r (QT.r (QT.r (QB.r (QB.r (QT.r (QT.r (QB.r (QT.r ?_)))))))))))))))
       cases H
       exact Ea rfl rfl rfl tv
      replace H := of_f H h70
      refine Wk (Qn (Ws (Hp (.one 0 true (.one 1 true (.one 2 true (.one 3 true (.one 4 true (.one 5 true (.one 6 true (.one 7 true (.one 8 true (.one 9 true (.one 10 true (.one 11 true (.one 12 true (.one 13 true (.one 14 true (.one 15 true (.one 16 true (.one 17 true (.one 18 true (.one 19 true (.one 20 true (.one 21 true (.one 22 true (.one 23 true (.one 24 true (.one 25 true (.one 26 true (.one 27 true (.one 28 true (.one 29 true (.one 30 true (.one 31 true (.one 32 true (.one 33 true (.one 34 true (.one 35 true (.one 36 true (.one 37 true (.one 38 true (.one 39 true (.one 40 true (.one 41 true (.one 42 true (.one 43 true (.one 44 true (.one 45 true (.one 46 true (.one 47 true (.one 48 true (.one 49 true (.one 50 true (.one 51 true (.one 52 true (.one 53 true (.one 54 true (.one 55 true (.one 56 true .done))))))))))))))))))))))))))))))))))))))))))))))))))))))))) [101, 107] [101, 107] rfl (by kernel_rfl) rfl (by kernel_rfl) rfl rfl (fun _ h => h) rfl rfl rfl (fun _ _ _ h => h) fun FK NK wK K => (Hr 4 tk rfl rfl rfl rfl tv (WH.sect 6 3 true tk rfl rfl rfl rfl (fun _ => tv) (Hr 2 tk rfl rfl rfl rfl ⟨by first | exact id | exact fun h => by rw [h]; rfl | simp_all, tv⟩ (WH.sect 4 11 false tk rfl rfl rfl rfl (fun _ => tv) (WH.sect 6 15 true tk rfl rfl rfl rfl (fun _ => tv) (WH.sect 1 11 false tk rfl rfl rfl rfl (fun hb => ⟨by first | exact id | exact ⟨hb, fun h => by rw [hb, h]; rfl⟩ | exact ⟨hb, id⟩ | exact fun h => by rw [hb, h]; rfl | exact fun h => by rw [h]; rfl | simp_all, tv⟩) (Hr 2 tk rfl rfl rfl rfl ⟨by first | exact id | exact fun h => by rw [h]; rfl | simp_all, tv⟩ (WH.sect 4 24 false tk rfl rfl rfl rfl (fun _ => tv) ?_)))))))))))
      obtain ⟨g71, H⟩ := of_needS H
      refine WH.sect 10 28 true tk rfl rfl rfl rfl (fun hb => ⟨⟨(nIn_ok (g71 hb)).1, (nIn_ok (g71 hb)).2, rfl⟩, tv⟩) (WH.sect 1 24 false tk rfl rfl rfl rfl (fun hb => ⟨by first | exact id | exact ⟨hb, fun h => by rw [hb, h]; rfl⟩ | exact ⟨hb, id⟩ | exact fun h => by rw [hb, h]; rfl | exact fun h => by rw [h]; rfl | simp_all, tv⟩) (Hr 2 tk rfl rfl rfl rfl ⟨by first | exact id | exact fun h => by rw [h]; rfl | simp_all, tv⟩ (WH.sect 4 41 false tk rfl rfl rfl rfl (fun _ => tv) ?_)))
      obtain ⟨g72, H⟩ := of_needS H
      refine WH.sect 9 45 true tk rfl rfl rfl rfl (fun hb => ⟨⟨(nIn_ok (g72 hb)).1, (nIn_ok (g72 hb)).2, rfl⟩, tv⟩) (WH.sect 1 41 false tk rfl rfl rfl rfl (fun hb => ⟨by first | exact id | exact ⟨hb, fun h => by rw [hb, h]; rfl⟩ | exact ⟨hb, id⟩ | exact fun h => by rw [hb, h]; rfl | exact fun h => by rw [h]; rfl | simp_all, tv⟩) (Hr 1 tk rfl rfl rfl rfl ⟨by first | exact id | exact fun h => by rw [h]; rfl | simp_all, tv⟩ (WH.nil rfl (Qn (Wc rfl (fun h73 => ?_) (fun h73 => ?_))))))
      ·replace H := of_t H h73
       refine Ws (Wg (Wr 1 tk sg0 rfl rfl tv (Wn (Qn (Wt (QB.r (QT.r (QT.r (QB.r (QB.r (QT.r (QT.r (QB.r (QT.r ?_))))))))))))))
       cases H
       exact Ea rfl rfl rfl tv
      replace H := of_f H h73
      refine Wk (Qb (Qn ?_))
      exact ⟨Unit.unit, H, LessW.mk' ⟨Ao rfl, Ao rfl, Ao rfl, tv⟩ ⟨rfl, tv⟩⟩
     replace H := of_f H h68
     refine Wg (Wr 2 tk sg0 rfl rfl tv (Wn (Qn (Wc rfl (fun h74 => ?_) (fun h74 => ?_)))))
     ·replace H := of_t H h74
      refine Wg (Wr 1 tk sg0 rfl rfl tv (Wn (Qb (Qn ?_))))
      refine Ws (Ws (Wg (Wr 3 tk sg0 rfl rfl tv (WL.grun 7 2 true 76 tk sg0 rfl rfl rfl rfl tv ?_))))
      obtain ⟨g75, H⟩ := of_needS H
      refine Wx 9 9 false tk sg0 rfl rfl (fun hb => ⟨⟨(nIn_ok (g75 hb)).1, (nIn_ok (g75 hb)).2, rfl⟩, tv⟩) (WL.grun 1 2 true 76 tk sg0 rfl rfl rfl rfl ⟨by first | exact id | exact fun h => by rw [h]; rfl | simp_all, tv⟩ (WL.pickT rfl rfl rfl rfl rfl rfl (Wn (Qn (Wc rfl (fun h76 => ?_) (fun h76 => ?_))))))
      ·replace H := of_t H h76
       refine Ws (Wg (Wr 1 tk sg0 rfl rfl tv (Wn (Qn (Wt (QT.r (QB.r (QT.r (QT.r (QB.r (QB.r (QT.r (QT.r (QB.r (QT.r ?_)))))))))))))))
       cases H
       exact Ea rfl rfl rfl tv
      replace H := of_f H h76
      refine Wk (Qn (Ws (Hp (.one 0 true (.one 1 true (.one 2 true (.one 3 true (.one 4 true (.one 5 true (.one 6 true (.one 7 true (.one 8 true (.one 9 true (.one 10 true (.one 11 true (.one 12 true (.one 13 true (.one 14 true (.one 15 true (.one 16 true (.one 17 true (.one 18 true (.one 19 true (.one 20 true (.one 21 true (.one 22 true (.one 23 true (.one 24 true (.one 25 true (.one 26 true (.one 27 true (.one 28 true (.one 29 true (.one 30 true (.one 31 true (.one 32 true (.one 33 true (.one 34 true (.one 35 true (.one 36 true (.one 37 true (.one 38 true (.one 39 true (.one 40 true (.one 41 true (.one 42 true (.one 43 true (.one 44 true (.one 45 true (.one 46 true (.one 47 true (.one 48 true (.one 49 true (.one 50 true (.one 51 true (.one 52 true (.one 53 true (.one 54 true (.one 55 true (.one 56 true .done))))))))))))))))))))))))))))))))))))))))))))))))))))))))) [101, 107] [101, 107] rfl (by kernel_rfl) rfl (by kernel_rfl) rfl rfl (fun _ h => h) rfl rfl rfl (fun _ _ _ h => h) fun FK NK wK K => (Hr 4 tk rfl rfl rfl rfl tv (WH.sect 6 3 true tk rfl rfl rfl rfl (fun _ => tv) (Hr 2 tk rfl rfl rfl rfl ⟨by first | exact id | exact fun h => by rw [h]; rfl | simp_all, tv⟩ (WH.sect 4 11 false tk rfl rfl rfl rfl (fun _ => tv) (WH.sect 6 15 true tk rfl rfl rfl rfl (fun _ => tv) (WH.sect 1 11 false tk rfl rfl rfl rfl (fun hb => ⟨by first | exact id | exact ⟨hb, fun h => by rw [hb, h]; rfl⟩ | exact ⟨hb, id⟩ | exact fun h => by rw [hb, h]; rfl | exact fun h => by rw [h]; rfl | simp_all, tv⟩) (Hr 2 tk rfl rfl rfl rfl ⟨by first | exact id | exact fun h => by rw [h]; rfl | simp_all, tv⟩ (WH.sect 4 24 false tk rfl rfl rfl rfl (fun _ => tv) ?_)))))))))))
      obtain ⟨g77, H⟩ := of_needS H
      refine WH.sect 10 28 true tk rfl rfl rfl rfl (fun hb => ⟨⟨(nIn_ok (g77 hb)).1, (nIn_ok (g77 hb)).2, rfl⟩, tv⟩) (WH.sect 1 24 false tk rfl rfl rfl rfl (fun hb => ⟨by first | exact id | exact ⟨hb, fun h => by rw [hb, h]; rfl⟩ | exact ⟨hb, id⟩ | exact fun h => by rw [hb, h]; rfl | exact fun h => by rw [h]; rfl | simp_all, tv⟩) (Hr 2 tk rfl rfl rfl rfl ⟨by first | exact id | exact fun h => by rw [h]; rfl | simp_all, tv⟩ (WH.sect 4 41 false tk rfl rfl rfl rfl (fun _ => tv) ?_)))
      obtain ⟨g78, H⟩ := of_needS H
      refine WH.sect 9 45 true tk rfl rfl rfl rfl (fun hb => ⟨⟨(nIn_ok (g78 hb)).1, (nIn_ok (g78 hb)).2, rfl⟩, tv⟩) (WH.sect 1 41 false tk rfl rfl rfl rfl (fun hb => ⟨by first | exact id | exact ⟨hb, fun h => by rw [hb, h]; rfl⟩ | exact ⟨hb, id⟩ | exact fun h => by rw [hb, h]; rfl | exact fun h => by rw [h]; rfl | simp_all, tv⟩) (Hr 1 tk rfl rfl rfl rfl ⟨by first | exact id | exact fun h => by rw [h]; rfl | simp_all, tv⟩ (WH.nil rfl (Qn (Wc rfl (fun h79 => ?_) (fun h79 => ?_))))))
      ·replace H := of_t H h79
       refine Ws (Wg (Wr 1 tk sg0 rfl rfl tv (Wn (Qn (Wt (QB.r (QT.r (QT.r (QB.r (QB.r (QT.r (QT.r (QB.r (QT.r ?_))))))))))))))
       cases H
       exact Ea rfl rfl rfl tv
      replace H := of_f H h79
      refine Wk (Qb (Qn ?_))
      exact ⟨Unit.unit, H, LessW.mk' ⟨Ao rfl, Ao rfl, Ao rfl, tv⟩ ⟨rfl, tv⟩⟩
     replace H := of_f H h74
     refine Ws (Ws (Wg (Wr 2 tk sg0 rfl rfl tv (Wn (Qn (Wc rfl (fun h80 => ?_) (fun h80 => ?_)))))))
     ·replace H := of_t H h80
      refine WC.known (g := 68) true rfl h80 (Wk (Qn (Wc rfl (fun h => ?_) (fun h => absurd h (by decide)))))
      refine Wg (Wr 1 tk sg0 rfl rfl tv (Wn (Qb (Qn ?_))))
      refine Ws (Ws (Wg (Wr 3 tk sg0 rfl rfl tv (WL.grun 7 2 true 76 tk sg0 rfl rfl rfl rfl tv ?_))))
      obtain ⟨g81, H⟩ := of_needS H
      refine Wx 9 9 false tk sg0 rfl rfl (fun hb => ⟨⟨(nIn_ok (g81 hb)).1, (nIn_ok (g81 hb)).2, rfl⟩, tv⟩) (WL.grun 1 2 true 76 tk sg0 rfl rfl rfl rfl ⟨by first | exact id | exact fun h => by rw [h]; rfl | simp_all, tv⟩ (WL.pickT rfl rfl rfl rfl rfl rfl (Wn (Qn (Wc rfl (fun h82 => ?_) (fun h82 => ?_))))))
      ·replace H := of_t H h82
       refine Ws (Wg (Wr 1 tk sg0 rfl rfl tv (Wn (Qn (Wt (QT.r (QB.r (QT.r (QT.r (QB.r (QB.r (QT.r (QT.r (QB.r (QT.r ?_)))))))))))))))
       cases H
       exact Ea rfl rfl rfl tv
      replace H := of_f H h82
      refine Wk (Qn (Ws (Hp (.one 0 true (.one 1 true (.one 2 true (.one 3 true (.one 4 true (.one 5 true (.one 6 true (.one 7 true (.one 8 true (.one 9 true (.one 10 true (.one 11 true (.one 12 true (.one 13 true (.one 14 true (.one 15 true (.one 16 true (.one 17 true (.one 18 true (.one 19 true (.one 20 true (.one 21 true (.one 22 true (.one 23 true (.one 24 true (.one 25 true (.one 26 true (.one 27 true (.one 28 true (.one 29 true (.one 30 true (.one 31 true (.one 32 true (.one 33 true (.one 34 true (.one 35 true (.one 36 true (.one 37 true (.one 38 true (.one 39 true (.one 40 true (.one 41 true (.one 42 true (.one 43 true (.one 44 true (.one 45 true (.one 46 true (.one 47 true (.one 48 true (.one 49 true (.one 50 true (.one 51 true (.one 52 true (.one 53 true (.one 54 true (.one 55 true (.one 56 true .done))))))))))))))))))))))))))))))))))))))))))))))))))))))))) [101, 107] [101, 107] rfl (by kernel_rfl) rfl (by kernel_rfl) rfl rfl (fun _ h => h) rfl rfl rfl (fun _ _ _ h => h) fun FK NK wK K => (Hr 4 tk rfl rfl rfl rfl tv (WH.sect 6 3 true tk rfl rfl rfl rfl (fun _ => tv) (Hr 2 tk rfl rfl rfl rfl ⟨by first | exact id | exact fun h => by rw [h]; rfl | simp_all, tv⟩ (WH.sect 4 11 false tk rfl rfl rfl rfl (fun _ => tv) (WH.sect 6 15 true tk rfl rfl rfl rfl (fun _ => tv) (WH.sect 1 11 false tk rfl rfl rfl rfl (fun hb => ⟨by first | exact id | exact ⟨hb, fun h => by rw [hb, h]; rfl⟩ | exact ⟨hb, id⟩ | exact fun h => by rw [hb, h]; rfl | exact fun h => by rw [h]; rfl | simp_all, tv⟩) (Hr 2 tk rfl rfl rfl rfl ⟨by first | exact id | exact fun h => by rw [h]; rfl | simp_all, tv⟩ (WH.sect 4 24 false tk rfl rfl rfl rfl (fun _ => tv) ?_)))))))))))
      obtain ⟨g83, H⟩ := of_needS H
      refine WH.sect 10 28 true tk rfl rfl rfl rfl (fun hb => ⟨⟨(nIn_ok (g83 hb)).1, (nIn_ok (g83 hb)).2, rfl⟩, tv⟩) (WH.sect 1 24 false tk rfl rfl rfl rfl (fun hb => ⟨by first | exact id | exact ⟨hb, fun h => by rw [hb, h]; rfl⟩ | exact ⟨hb, id⟩ | exact fun h => by rw [hb, h]; rfl | exact fun h => by rw [h]; rfl | simp_all, tv⟩) (Hr 2 tk rfl rfl rfl rfl ⟨by first | exact id | exact fun h => by rw [h]; rfl | simp_all, tv⟩ (WH.sect 4 41 false tk rfl rfl rfl rfl (fun _ => tv) ?_)))
      obtain ⟨g84, H⟩ := of_needS H
      refine WH.sect 9 45 true tk rfl rfl rfl rfl (fun hb => ⟨⟨(nIn_ok (g84 hb)).1, (nIn_ok (g84 hb)).2, rfl⟩, tv⟩) (WH.sect 1 41 false tk rfl rfl rfl rfl (fun hb => ⟨by first | exact id | exact ⟨hb, fun h => by rw [hb, h]; rfl⟩ | exact ⟨hb, id⟩ | exact fun h => by rw [hb, h]; rfl | exact fun h => by rw [h]; rfl | simp_all, tv⟩) (Hr 1 tk rfl rfl rfl rfl ⟨by first | exact id | exact fun h => by rw [h]; rfl | simp_all, tv⟩ (WH.nil rfl (Qn (Wc rfl (fun h85 => ?_) (fun h85 => ?_))))))
      ·replace H := of_t H h85
       refine Ws (Wg (Wr 1 tk sg0 rfl rfl tv (Wn (Qn (Wt (QB.r (QT.r (QT.r (QB.r (QB.r (QT.r (QT.r (QB.r (QT.r ?_))))))))))))))
       cases H
       exact Ea rfl rfl rfl tv
      replace H := of_f H h85
      refine Wk (Qb (Qn ?_))
      exact ⟨Unit.unit, H, LessW.mk' ⟨Ao rfl, Ao rfl, Ao rfl, tv⟩ ⟨rfl, tv⟩⟩
     replace H := of_f H h80
     refine Wg (Wr 2 tk sg0 rfl rfl tv (Wn (Qn (Wc rfl (fun h86 => ?_) (fun h86 => ?_)))))
     ·replace H := of_t H h86
      refine Wg (Wr 1 tk sg0 rfl rfl tv (Wn (Qb (Qn ?_))))
      refine Ws (Ws (Wg (Wr 3 tk sg0 rfl rfl tv (WL.grun 7 2 true 76 tk sg0 rfl rfl rfl rfl tv ?_))))
      obtain ⟨g87, H⟩ := of_needS H
      refine Wx 9 9 false tk sg0 rfl rfl (fun hb => ⟨⟨(nIn_ok (g87 hb)).1, (nIn_ok (g87 hb)).2, rfl⟩, tv⟩) (WL.grun 1 2 true 76 tk sg0 rfl rfl rfl rfl ⟨by first | exact id | exact fun h => by rw [h]; rfl | simp_all, tv⟩ (WL.pickT rfl rfl rfl rfl rfl rfl (Wn (Qn (Wc rfl (fun h88 => ?_) (fun h88 => ?_))))))
      ·replace H := of_t H h88
       refine Ws (Wg (Wr 1 tk sg0 rfl rfl tv (Wn (Qn (Wt (QT.r (QB.r (QT.r (QT.r (QB.r (QB.r (QT.r (QT.r (QB.r (QT.r ?_)))))))))))))))
       cases H
       exact Ea rfl rfl rfl tv
      replace H := of_f H h88
      refine Wk (Qn (Ws (Hp (.one 0 true (.one 1 true (.one 2 true (.one 3 true (.one 4 true (.one 5 true (.one 6 true (.one 7 true (.one 8 true (.one 9 true (.one 10 true (.one 11 true (.one 12 true (.one 13 true (.one 14 true (.one 15 true (.one 16 true (.one 17 true (.one 18 true (.one 19 true (.one 20 true (.one 21 true (.one 22 true (.one 23 true (.one 24 true (.one 25 true (.one 26 true (.one 27 true (.one 28 true (.one 29 true (.one 30 true (.one 31 true (.one 32 true (.one 33 true (.one 34 true (.one 35 true (.one 36 true (.one 37 true (.one 38 true (.one 39 true (.one 40 true (.one 41 true (.one 42 true (.one 43 true (.one 44 true (.one 45 true (.one 46 true (.one 47 true (.one 48 true (.one 49 true (.one 50 true (.one 51 true (.one 52 true (.one 53 true (.one 54 true (.one 55 true (.one 56 true .done))))))))))))))))))))))))))))))))))))))))))))))))))))))))) [101, 107] [101, 107] rfl (by kernel_rfl) rfl (by kernel_rfl) rfl rfl (fun _ h => h) rfl rfl rfl (fun _ _ _ h => h) fun FK NK wK K => (Hr 4 tk rfl rfl rfl rfl tv (WH.sect 6 3 true tk rfl rfl rfl rfl (fun _ => tv) (Hr 2 tk rfl rfl rfl rfl ⟨by first | exact id | exact fun h => by rw [h]; rfl | simp_all, tv⟩ (WH.sect 4 11 false tk rfl rfl rfl rfl (fun _ => tv) (WH.sect 6 15 true tk rfl rfl rfl rfl (fun _ => tv) (WH.sect 1 11 false tk rfl rfl rfl rfl (fun hb => ⟨by first | exact id | exact ⟨hb, fun h => by rw [hb, h]; rfl⟩ | exact ⟨hb, id⟩ | exact fun h => by rw [hb, h]; rfl | exact fun h => by rw [h]; rfl | simp_all, tv⟩) (Hr 2 tk rfl rfl rfl rfl ⟨by first | exact id | exact fun h => by rw [h]; rfl | simp_all, tv⟩ (WH.sect 4 24 false tk rfl rfl rfl rfl (fun _ => tv) ?_)))))))))))
      obtain ⟨g89, H⟩ := of_needS H
      refine WH.sect 10 28 true tk rfl rfl rfl rfl (fun hb => ⟨⟨(nIn_ok (g89 hb)).1, (nIn_ok (g89 hb)).2, rfl⟩, tv⟩) (WH.sect 1 24 false tk rfl rfl rfl rfl (fun hb => ⟨by first | exact id | exact ⟨hb, fun h => by rw [hb, h]; rfl⟩ | exact ⟨hb, id⟩ | exact fun h => by rw [hb, h]; rfl | exact fun h => by rw [h]; rfl | simp_all, tv⟩) (Hr 2 tk rfl rfl rfl rfl ⟨by first | exact id | exact fun h => by rw [h]; rfl | simp_all, tv⟩ (WH.sect 4 41 false tk rfl rfl rfl rfl (fun _ => tv) ?_)))
      obtain ⟨g90, H⟩ := of_needS H
      refine WH.sect 9 45 true tk rfl rfl rfl rfl (fun hb => ⟨⟨(nIn_ok (g90 hb)).1, (nIn_ok (g90 hb)).2, rfl⟩, tv⟩) (WH.sect 1 41 false tk rfl rfl rfl rfl (fun hb => ⟨by first | exact id | exact ⟨hb, fun h => by rw [hb, h]; rfl⟩ | exact ⟨hb, id⟩ | exact fun h => by rw [hb, h]; rfl | exact fun h => by rw [h]; rfl | simp_all, tv⟩) (Hr 1 tk rfl rfl rfl rfl ⟨by first | exact id | exact fun h => by rw [h]; rfl | simp_all, tv⟩ (WH.nil rfl (Qn (Wc rfl (fun h91 => ?_) (fun h91 => ?_))))))
      ·replace H := of_t H h91
       refine Ws (Wg (Wr 1 tk sg0 rfl rfl tv (Wn (Qn (Wt (QB.r (QT.r (QT.r (QB.r (QB.r (QT.r (QT.r (QB.r (QT.r ?_))))))))))))))
       cases H
       exact Ea rfl rfl rfl tv
      replace H := of_f H h91
      refine Wk (Qb (Qn ?_))
      exact ⟨Unit.unit, H, LessW.mk' ⟨Ao rfl, Ao rfl, Ao rfl, tv⟩ ⟨rfl, tv⟩⟩
     replace H := of_f H h86
     refine Ws (Ws (Wg (Wr 2 tk sg0 rfl rfl tv (Wn (Qn (Wc rfl (fun h92 => ?_) (fun h92 => ?_)))))))
     ·replace H := of_t H h92
      refine WC.known (g := 71) true rfl h92 (Wk (Qn (Wc rfl (fun h => ?_) (fun h => absurd h (by decide)))))
      refine Wg (Wr 1 tk sg0 rfl rfl tv (Wn (Qb (Qn ?_))))
      refine Ws (Ws (Wg (Wr 3 tk sg0 rfl rfl tv (WL.grun 7 2 true 76 tk sg0 rfl rfl rfl rfl tv ?_))))
      obtain ⟨g93, H⟩ := of_needS H
      refine Wx 9 9 false tk sg0 rfl rfl (fun hb => ⟨⟨(nIn_ok (g93 hb)).1, (nIn_ok (g93 hb)).2, rfl⟩, tv⟩) (WL.grun 1 2 true 76 tk sg0 rfl rfl rfl rfl ⟨by first | exact id | exact fun h => by rw [h]; rfl | simp_all, tv⟩ (WL.pickT rfl rfl rfl rfl rfl rfl (Wn (Qn (Wc rfl (fun h94 => ?_) (fun h94 => ?_))))))
      ·replace H := of_t H h94
       refine Ws (Wg (Wr 1 tk sg0 rfl rfl tv (Wn (Qn (Wt (QT.r (QB.r (QT.r (QT.r (QB.r (QB.r (QT.r (QT.r (QB.r (QT.r ?_)))))))))))))))
       cases H
       exact Ea rfl rfl rfl tv
      replace H := of_f H h94
      refine Wk (Qn (Ws (Hp (.one 0 true (.one 1 true (.one 2 true (.one 3 true (.one 4 true (.one 5 true (.one 6 true (.one 7 true (.one 8 true (.one 9 true (.one 10 true (.one 11 true (.one 12 true (.one 13 true (.one 14 true (.one 15 true (.one 16 true (.one 17 true (.one 18 true (.one 19 true (.one 20 true (.one 21 true (.one 22 true (.one 23 true (.one 24 true (.one 25 true (.one 26 true (.one 27 true (.one 28 true (.one 29 true (.one 30 true (.one 31 true (.one 32 true (.one 33 true (.one 34 true (.one 35 true (.one 36 true (.one 37 true (.one 38 true (.one 39 true (.one 40 true (.one 41 true (.one 42 true (.one 43 true (.one 44 true (.one 45 true (.one 46 true (.one 47 true (.one 48 true (.one 49 true (.one 50 true (.one 51 true (.one 52 true (.one 53 true (.one 54 true (.one 55 true (.one 56 true .done))))))))))))))))))))))))))))))))))))))))))))))))))))))))) [101, 107] [101, 107] rfl (by kernel_rfl) rfl (by kernel_rfl) rfl rfl (fun _ h => h) rfl rfl rfl (fun _ _ _ h => h) fun FK NK wK K => (Hr 4 tk rfl rfl rfl rfl tv (WH.sect 6 3 true tk rfl rfl rfl rfl (fun _ => tv) (Hr 2 tk rfl rfl rfl rfl ⟨by first | exact id | exact fun h => by rw [h]; rfl | simp_all, tv⟩ (WH.sect 4 11 false tk rfl rfl rfl rfl (fun _ => tv) (WH.sect 6 15 true tk rfl rfl rfl rfl (fun _ => tv) (WH.sect 1 11 false tk rfl rfl rfl rfl (fun hb => ⟨by first | exact id | exact ⟨hb, fun h => by rw [hb, h]; rfl⟩ | exact ⟨hb, id⟩ | exact fun h => by rw [hb, h]; rfl | exact fun h => by rw [h]; rfl | simp_all, tv⟩) (Hr 2 tk rfl rfl rfl rfl ⟨by first | exact id | exact fun h => by rw [h]; rfl | simp_all, tv⟩ (WH.sect 4 24 false tk rfl rfl rfl rfl (fun _ => tv) ?_)))))))))))
      obtain ⟨g95, H⟩ := of_needS H
      refine WH.sect 10 28 true tk rfl rfl rfl rfl (fun hb => ⟨⟨(nIn_ok (g95 hb)).1, (nIn_ok (g95 hb)).2, rfl⟩, tv⟩) (WH.sect 1 24 false tk rfl rfl rfl rfl (fun hb => ⟨by first | exact id | exact ⟨hb, fun h => by rw [hb, h]; rfl⟩ | exact ⟨hb, id⟩ | exact fun h => by rw [hb, h]; rfl | exact fun h => by rw [h]; rfl | simp_all, tv⟩) (Hr 2 tk rfl rfl rfl rfl ⟨by first | exact id | exact fun h => by rw [h]; rfl | simp_all, tv⟩ (WH.sect 4 41 false tk rfl rfl rfl rfl (fun _ => tv) ?_)))
      obtain ⟨g96, H⟩ := of_needS H
      refine WH.sect 9 45 true tk rfl rfl rfl rfl (fun hb => ⟨⟨(nIn_ok (g96 hb)).1, (nIn_ok (g96 hb)).2, rfl⟩, tv⟩) (WH.sect 1 41 false tk rfl rfl rfl rfl (fun hb => ⟨by first | exact id | exact ⟨hb, fun h => by rw [hb, h]; rfl⟩ | exact ⟨hb, id⟩ | exact fun h => by rw [hb, h]; rfl | exact fun h => by rw [h]; rfl | simp_all, tv⟩) (Hr 1 tk rfl rfl rfl rfl ⟨by first | exact id | exact fun h => by rw [h]; rfl | simp_all, tv⟩ (WH.nil rfl (Qn (Wc rfl (fun h97 => ?_) (fun h97 => ?_))))))
      ·replace H := of_t H h97
       refine Ws (Wg (Wr 1 tk sg0 rfl rfl tv (Wn (Qn (Wt (QB.r (QT.r (QT.r (QB.r (QB.r (QT.r (QT.r (QB.r (QT.r ?_))))))))))))))
       cases H
       exact Ea rfl rfl rfl tv
      replace H := of_f H h97
      refine Wk (Qb (Qn ?_))
      exact ⟨Unit.unit, H, LessW.mk' ⟨Ao rfl, Ao rfl, Ao rfl, tv⟩ ⟨rfl, tv⟩⟩
     replace H := of_f H h92
     refine Wg (Wr 2 tk sg0 rfl rfl tv (Wn (Qn (Wc rfl (fun h98 => ?_) (fun h98 => ?_)))))
     ·replace H := of_t H h98
      refine Wg (Wr 1 tk sg0 rfl rfl tv (Wn (Qb (Qn ?_))))
      refine Ws (Ws (Wg (Wr 3 tk sg0 rfl rfl tv (WL.grun 7 2 true 76 tk sg0 rfl rfl rfl rfl tv ?_))))
      obtain ⟨g99, H⟩ := of_needS H
      refine Wx 9 9 false tk sg0 rfl rfl (fun hb => ⟨⟨(nIn_ok (g99 hb)).1, (nIn_ok (g99 hb)).2, rfl⟩, tv⟩) (WL.grun 1 2 true 76 tk sg0 rfl rfl rfl rfl ⟨by first | exact id | exact fun h => by rw [h]; rfl | simp_all, tv⟩ (WL.pickT rfl rfl rfl rfl rfl rfl (Wn (Qn (Wc rfl (fun h100 => ?_) (fun h100 => ?_))))))
      ·replace H := of_t H h100
       refine Ws (Wg (Wr 1 tk sg0 rfl rfl tv (Wn (Qn (Wt (QT.r (QB.r (QT.r (QT.r (QB.r (QB.r (QT.r (QT.r (QB.r (QT.r ?_)))))))))))))))
       cases H
       exact Ea rfl rfl rfl tv
      replace H := of_f H h100
      refine Wk (Qn (Ws (Hp (.one 0 true (.one 1 true (.one 2 true (.one 3 true (.one 4 true (.one 5 true (.one 6 true (.one 7 true (.one 8 true (.one 9 true (.one 10 true (.one 11 true (.one 12 true (.one 13 true (.one 14 true (.one 15 true (.one 16 true (.one 17 true (.one 18 true (.one 19 true (.one 20 true (.one 21 true (.one 22 true (.one 23 true (.one 24 true (.one 25 true (.one 26 true (.one 27 true (.one 28 true (.one 29 true (.one 30 true (.one 31 true (.one 32 true (.one 33 true (.one 34 true (.one 35 true (.one 36 true (.one 37 true (.one 38 true (.one 39 true (.one 40 true (.one 41 true (.one 42 true (.one 43 true (.one 44 true (.one 45 true (.one 46 true (.one 47 true (.one 48 true (.one 49 true (.one 50 true (.one 51 true (.one 52 true (.one 53 true (.one 54 true (.one 55 true (.one 56 true .done))))))))))))))))))))))))))))))))))))))))))))))))))))))))) [101, 107] [101, 107] rfl (by kernel_rfl) rfl (by kernel_rfl) rfl rfl (fun _ h => h) rfl rfl rfl (fun _ _ _ h => h) fun FK NK wK K => (Hr 4 tk rfl rfl rfl rfl tv (WH.sect 6 3 true tk rfl rfl rfl rfl (fun _ => tv) (Hr 2 tk rfl rfl rfl rfl ⟨by first | exact id | exact fun h => by rw [h]; rfl | simp_all, tv⟩ (WH.sect 4 11 false tk rfl rfl rfl rfl (fun _ => tv) (WH.sect 6 15 true tk rfl rfl rfl rfl (fun _ => tv) (WH.sect 1 11 false tk rfl rfl rfl rfl (fun hb => ⟨by first | exact id | exact ⟨hb, fun h => by rw [hb, h]; rfl⟩ | exact ⟨hb, id⟩ | exact fun h => by rw [hb, h]; rfl | exact fun h => by rw [h]; rfl | simp_all, tv⟩) (Hr 2 tk rfl rfl rfl rfl ⟨by first | exact id | exact fun h => by rw [h]; rfl | simp_all, tv⟩ (WH.sect 4 24 false tk rfl rfl rfl rfl (fun _ => tv) ?_)))))))))))
      obtain ⟨g101, H⟩ := of_needS H
      refine WH.sect 10 28 true tk rfl rfl rfl rfl (fun hb => ⟨⟨(nIn_ok (g101 hb)).1, (nIn_ok (g101 hb)).2, rfl⟩, tv⟩) (WH.sect 1 24 false tk rfl rfl rfl rfl (fun hb => ⟨by first | exact id | exact ⟨hb, fun h => by rw [hb, h]; rfl⟩ | exact ⟨hb, id⟩ | exact fun h => by rw [hb, h]; rfl | exact fun h => by rw [h]; rfl | simp_all, tv⟩) (Hr 2 tk rfl rfl rfl rfl ⟨by first | exact id | exact fun h => by rw [h]; rfl | simp_all, tv⟩ (WH.sect 4 41 false tk rfl rfl rfl rfl (fun _ => tv) ?_)))
      obtain ⟨g102, H⟩ := of_needS H
      refine WH.sect 9 45 true tk rfl rfl rfl rfl (fun hb => ⟨⟨(nIn_ok (g102 hb)).1, (nIn_ok (g102 hb)).2, rfl⟩, tv⟩) (WH.sect 1 41 false tk rfl rfl rfl rfl (fun hb => ⟨by first | exact id | exact ⟨hb, fun h => by rw [hb, h]; rfl⟩ | exact ⟨hb, id⟩ | exact fun h => by rw [hb, h]; rfl | exact fun h => by rw [h]; rfl | simp_all, tv⟩) (Hr 1 tk rfl rfl rfl rfl ⟨by first | exact id | exact fun h => by rw [h]; rfl | simp_all, tv⟩ (WH.nil rfl (Qn (Wc rfl (fun h103 => ?_) (fun h103 => ?_))))))
      ·replace H := of_t H h103
       refine Ws (Wg (Wr 1 tk sg0 rfl rfl tv (Wn (Qn (Wt (QB.r (QT.r (QT.r (QB.r (QB.r (QT.r (QT.r (QB.r (QT.r ?_))))))))))))))
       cases H
       exact Ea rfl rfl rfl tv
      replace H := of_f H h103
      refine Wk (Qb (Qn ?_))
      exact ⟨Unit.unit, H, LessW.mk' ⟨Ao rfl, Ao rfl, Ao rfl, tv⟩ ⟨rfl, tv⟩⟩
     replace H := of_f H h98
     refine Wk (Qb (Qn ?_))
     refine Ws (Ws (Wg (Wr 3 tk sg0 rfl rfl tv (WL.gskips 7 2 true 76 rfl rfl rfl rfl (WL.gskips 9 9 false 83 rfl rfl rfl rfl (WL.gskips 1 2 true 76 rfl rfl rfl rfl (WL.pickF rfl rfl rfl rfl rfl rfl (Wn (Qn (Wc rfl (fun h => absurd h (by decide)) (fun h => ?_)))))))))))
     refine Wk (Qn (Ws (Hp (.one 0 true (.one 1 true (.one 2 true (.one 3 true (.one 4 true (.one 5 true (.one 6 true (.one 7 true (.one 8 true (.one 9 true (.one 10 true (.one 11 true (.one 12 true (.one 13 true (.one 14 true (.one 15 true (.one 16 true (.one 17 true (.one 18 true (.one 19 true (.one 20 true (.one 21 true (.one 22 true (.one 23 true (.one 24 true (.one 25 true (.one 26 true (.one 27 true (.one 28 true (.one 29 true (.one 30 true (.one 31 true (.one 32 true (.one 33 true (.one 34 true (.one 35 true (.one 36 true (.one 37 true (.one 38 true (.one 39 true (.one 40 true (.one 41 true (.one 42 true (.one 43 true (.one 44 true (.one 45 true (.one 46 true (.one 47 true (.one 48 true (.one 49 true (.one 50 true (.one 51 true (.one 52 true (.one 53 true (.one 54 true (.one 55 true (.one 56 true .done))))))))))))))))))))))))))))))))))))))))))))))))))))))))) [101, 107] [101, 107] rfl (by kernel_rfl) rfl (by kernel_rfl) rfl rfl (fun _ h => h) rfl rfl rfl (fun _ _ _ h => h) fun FK NK wK K => (Hr 4 tk rfl rfl rfl rfl tv (WH.sect 6 3 true tk rfl rfl rfl rfl (fun _ => tv) (Hr 2 tk rfl rfl rfl rfl ⟨by first | exact id | exact fun h => by rw [h]; rfl | simp_all, tv⟩ (WH.sect 4 11 false tk rfl rfl rfl rfl (fun _ => tv) (WH.sect 6 15 true tk rfl rfl rfl rfl (fun _ => tv) (WH.sect 1 11 false tk rfl rfl rfl rfl (fun hb => ⟨by first | exact id | exact ⟨hb, fun h => by rw [hb, h]; rfl⟩ | exact ⟨hb, id⟩ | exact fun h => by rw [hb, h]; rfl | exact fun h => by rw [h]; rfl | simp_all, tv⟩) (Hr 2 tk rfl rfl rfl rfl ⟨by first | exact id | exact fun h => by rw [h]; rfl | simp_all, tv⟩ (WH.sect 4 24 false tk rfl rfl rfl rfl (fun _ => tv) ?_)))))))))))
     obtain ⟨g104, H⟩ := of_needS H
     refine WH.sect 10 28 true tk rfl rfl rfl rfl (fun hb => ⟨⟨(nIn_ok (g104 hb)).1, (nIn_ok (g104 hb)).2, rfl⟩, tv⟩) (WH.sect 1 24 false tk rfl rfl rfl rfl (fun hb => ⟨by first | exact id | exact ⟨hb, fun h => by rw [hb, h]; rfl⟩ | exact ⟨hb, id⟩ | exact fun h => by rw [hb, h]; rfl | exact fun h => by rw [h]; rfl | simp_all, tv⟩) (Hr 2 tk rfl rfl rfl rfl ⟨by first | exact id | exact fun h => by rw [h]; rfl | simp_all, tv⟩ (WH.sect 4 41 false tk rfl rfl rfl rfl (fun _ => tv) ?_)))
     obtain ⟨g105, H⟩ := of_needS H
     refine WH.sect 9 45 true tk rfl rfl rfl rfl (fun hb => ⟨⟨(nIn_ok (g105 hb)).1, (nIn_ok (g105 hb)).2, rfl⟩, tv⟩) (WH.sect 1 41 false tk rfl rfl rfl rfl (fun hb => ⟨by first | exact id | exact ⟨hb, fun h => by rw [hb, h]; rfl⟩ | exact ⟨hb, id⟩ | exact fun h => by rw [hb, h]; rfl | exact fun h => by rw [h]; rfl | simp_all, tv⟩) (Hr 1 tk rfl rfl rfl rfl ⟨by first | exact id | exact fun h => by rw [h]; rfl | simp_all, tv⟩ (WH.nil rfl (Qn (Wc rfl (fun h106 => ?_) (fun h106 => ?_))))))
     ·replace H := of_t H h106
      refine Ws (Wg (Wr 1 tk sg0 rfl rfl tv (Wn (Qn (Wt (QB.r (QT.r (QT.r (QB.r (QB.r (QT.r (QT.r (QB.r (QT.r ?_))))))))))))))
      cases H
      exact Ea rfl rfl rfl tv
     replace H := of_f H h106
     refine Wk (Qb (Qn ?_))
     exact ⟨Unit.unit, H, LessW.mk' ⟨Ao rfl, Ao rfl, Ao rfl, tv⟩ ⟨rfl, tv⟩⟩
    ·rintro E m ⟨s17, H, hl⟩
     refine WC.lessW hl ?_
     replace H := (hK16 _).symm.trans H
     try dsimp only at H
     exact Wg (Wr 3 tk sg0 rfl rfl tv (Wn (Qn (⟨⟨(k13, IntKind.i64.wrap (s12 + 1)), H⟩, Nat.lt_succ_self _, Less.mk' ⟨rfl, rfl, rfl, tv⟩ ⟨rfl, tv⟩⟩))))
   replace H := of_f H h15
   refine WC.exit (Qx (Qx (Qh (Qb (Qn ?_)))))
   exact ⟨Unit.unit, H, LessW.mk' ⟨Ao rfl, Ao rfl, tv⟩ ⟨rfl, tv⟩⟩
  ·rintro E m ⟨s11, H, hl⟩
   refine WC.lessW hl ?_
   replace H := (hK10 _).symm.trans H
   try dsimp only at H
   exact Wg (Wr 3 tk sg0 rfl rfl tv (Wn (Qn (⟨⟨(k8, IntKind.i64.wrap (s7 + 1)), H⟩, Nat.lt_succ_self _, Less.mk' ⟨rfl, rfl, tv⟩ ⟨rfl, tv⟩⟩))))
 replace H := of_f H h9
 refine WC.exit (Qx (Qx (Qh (Qn ?_))))
 refine Ws (Wg ?_)
 obtain ⟨x107, hx107, H⟩ := of_bind H
 refine Wf [] (law12_lives_0 hx107) law12_lives_f rfl rfl tv rfl rfl rfl (Wr 1 tk sg0 rfl rfl tv (Wn (Qn (Wt ?_))))
 cases H
 exact Ea rfl rfl rfl tv

end Go.Proofs.YthgjdnknjofdjaaDoor.W
