/- Each Go function comes to what its plain function gives, where that gives something. -/
import Derived.Test.YthgjdnknjofdjaaDoorPF
import Derived.Test.YthgjdnknjofdjaaDoorSq
import Derived.Test.YthgjdnknjofdjaaDoorWF1
import Derived.Test.YthgjdnknjofdjaaDoorXByt
import Derived.Test.YthgjdnknjofdjaaDoorXMak
import Derived.Test.YthgjdnknjofdjaaDoorXQue
namespace Go.Proofs.YthgjdnknjofdjaaDoor.W
open Go Go.RowKit LJ
set_option linter.unusedVariables false
set_option linter.unusedSimpArgs false
set_option maxRecDepth 10000
theorem op_shape_0 (a0 : Int) {r : Int} (H : op_shape a0 = some r) : LJ.Spec Tryd.prog 78 [.d (.int .i64 a0)] [] (.d (.int .i64 r)) [] := by
 refine LJ.Spec.code Tryd.func78 rfl 39 rfl rfl [] rfl fun w0 F0 S0 B0 => ?_
 unfold op_shape at H
 refine Ws (Wg (Wr 1 tk sg0 rfl rfl tv (Wn (Qn (Ws (Ws (Wg (Wr 1 tk sg0 rfl rfl tv (Wn (Qn (Wb (Ws (Ws (Wg (Wr 2 tk sg0 rfl rfl tv (Wn (Qn (Wc rfl (fun h1 => ?_) (fun h1 => ?_)))))))))))))))))))
 ·replace H := of_t H h1
  refine WC.known (g := 4) true rfl h1 (Wk (Qn (Wc rfl (fun h => ?_) (fun h => absurd h (by decide)))))
  refine Ws (Wg (Wr 1 tk sg0 rfl rfl tv (Wn (Qn (Wt (QB.r (QT.r ?_)))))))
  cases H
  exact Ea rfl rfl rfl tv
 replace H := of_f H h1
 refine Ws (Wg (Wr 2 tk sg0 rfl rfl tv (Wn (Qn (Wc rfl (fun h2 => ?_) (fun h2 => ?_))))))
 ·replace H := of_t H h2
  refine WC.known (g := 4) true rfl h2 (Wk (Qn (Wc rfl (fun h => ?_) (fun h => absurd h (by decide)))))
  refine Ws (Wg (Wr 1 tk sg0 rfl rfl tv (Wn (Qn (Wt (QB.r (QT.r ?_)))))))
  cases H
  exact Ea rfl rfl rfl tv
 replace H := of_f H h2
 refine Ws (Wg (Wr 2 tk sg0 rfl rfl tv (Wn (Qn (Wc rfl (fun h3 => ?_) (fun h3 => ?_))))))
 ·replace H := of_t H h3
  refine WC.known (g := 4) true rfl h3 (Wk (Qn (Wc rfl (fun h => ?_) (fun h => absurd h (by decide)))))
  refine Ws (Wg (Wr 1 tk sg0 rfl rfl tv (Wn (Qn (Wt (QB.r (QT.r ?_)))))))
  cases H
  exact Ea rfl rfl rfl tv
 replace H := of_f H h3
 refine Wg (Wr 2 tk sg0 rfl rfl tv (Wn (Qn (Wc rfl (fun h4 => ?_) (fun h4 => ?_)))))
 ·replace H := of_t H h4
  refine Ws (Wg (Wr 1 tk sg0 rfl rfl tv (Wn (Qn (Wt (QB.r (QT.r ?_)))))))
  cases H
  exact Ea rfl rfl rfl tv
 replace H := of_f H h4
 refine Ws (Ws (Wg (Wr 2 tk sg0 rfl rfl tv (Wn (Qn (Wc rfl (fun h5 => ?_) (fun h5 => ?_)))))))
 ·replace H := of_t H h5
  refine WC.known (g := 9) true rfl h5 (Wk (Qn (Wc rfl (fun h => ?_) (fun h => absurd h (by decide)))))
  refine Ws (Wg (Wr 1 tk sg0 rfl rfl tv (Wn (Qn (Wt (QB.r (QT.r ?_)))))))
  cases H
  exact Ea rfl rfl rfl tv
 replace H := of_f H h5
 refine Wg (Wr 2 tk sg0 rfl rfl tv (Wn (Qn (Wc rfl (fun h6 => ?_) (fun h6 => ?_)))))
 ·replace H := of_t H h6
  refine Ws (Wg (Wr 1 tk sg0 rfl rfl tv (Wn (Qn (Wt (QB.r (QT.r ?_)))))))
  cases H
  exact Ea rfl rfl rfl tv
 replace H := of_f H h6
 refine Ws (Wg (Wr 2 tk sg0 rfl rfl tv (Wn (Qn (Wc rfl (fun h7 => ?_) (fun h7 => ?_))))))
 ·replace H := of_t H h7
  refine Ws (Wg (Wr 1 tk sg0 rfl rfl tv (Wn (Qn (Wt (QB.r (QT.r ?_)))))))
  cases H
  exact Ea rfl rfl rfl tv
 replace H := of_f H h7
 refine Ws (Wg (Wr 2 tk sg0 rfl rfl tv (Wn (Qn (Wc rfl (fun h8 => ?_) (fun h8 => ?_))))))
 ·replace H := of_t H h8
  refine Ws (Wg (Wr 1 tk sg0 rfl rfl tv (Wn (Qn (Wt (QB.r (QT.r ?_)))))))
  cases H
  exact Ea rfl rfl rfl tv
 replace H := of_f H h8
 refine Ws (Ws (Wg (Wr 2 tk sg0 rfl rfl tv (Wn (Qn (Wc rfl (fun h9 => ?_) (fun h9 => ?_)))))))
 ·replace H := of_t H h9
  refine WC.known (g := 16) true rfl h9 (Wk (Qn (Wc rfl (fun h => ?_) (fun h => absurd h (by decide)))))
  refine Ws (Wg (Wr 1 tk sg0 rfl rfl tv (Wn (Qn (Wt (QB.r (QT.r ?_)))))))
  cases H
  exact Ea rfl rfl rfl tv
 replace H := of_f H h9
 refine Wg (Wr 2 tk sg0 rfl rfl tv (Wn (Qn (Wc rfl (fun h10 => ?_) (fun h10 => ?_)))))
 ·replace H := of_t H h10
  refine Ws (Wg (Wr 1 tk sg0 rfl rfl tv (Wn (Qn (Wt (QB.r (QT.r ?_)))))))
  cases H
  exact Ea rfl rfl rfl tv
 replace H := of_f H h10
 refine Ws (Ws (Wg (Wr 2 tk sg0 rfl rfl tv (Wn (Qn (Wc rfl (fun h11 => ?_) (fun h11 => ?_)))))))
 ·replace H := of_t H h11
  refine WC.known (g := 19) true rfl h11 (Wk (Qn (Wc rfl (fun h => ?_) (fun h => absurd h (by decide)))))
  refine Ws (Wg (Wr 1 tk sg0 rfl rfl tv (Wn (Qn (Wt (QB.r (QT.r ?_)))))))
  cases H
  exact Ea rfl rfl rfl tv
 replace H := of_f H h11
 refine Ws (Wg (Wr 2 tk sg0 rfl rfl tv (Wn (Qn (Wc rfl (fun h12 => ?_) (fun h12 => ?_))))))
 ·replace H := of_t H h12
  refine WC.known (g := 19) true rfl h12 (Wk (Qn (Wc rfl (fun h => ?_) (fun h => absurd h (by decide)))))
  refine Ws (Wg (Wr 1 tk sg0 rfl rfl tv (Wn (Qn (Wt (QB.r (QT.r ?_)))))))
  cases H
  exact Ea rfl rfl rfl tv
 replace H := of_f H h12
 refine Ws (Wg (Wr 2 tk sg0 rfl rfl tv (Wn (Qn (Wc rfl (fun h13 => ?_) (fun h13 => ?_))))))
 ·replace H := of_t H h13
  refine WC.known (g := 19) true rfl h13 (Wk (Qn (Wc rfl (fun h => ?_) (fun h => absurd h (by decide)))))
  refine Ws (Wg (Wr 1 tk sg0 rfl rfl tv (Wn (Qn (Wt (QB.r (QT.r ?_)))))))
  cases H
  exact Ea rfl rfl rfl tv
 replace H := of_f H h13
 refine Ws (Wg (Wr 2 tk sg0 rfl rfl tv (Wn (Qn (Wc rfl (fun h14 => ?_) (fun h14 => ?_))))))
 ·replace H := of_t H h14
  refine WC.known (g := 19) true rfl h14 (Wk (Qn (Wc rfl (fun h => ?_) (fun h => absurd h (by decide)))))
  refine Ws (Wg (Wr 1 tk sg0 rfl rfl tv (Wn (Qn (Wt (QB.r (QT.r ?_)))))))
  cases H
  exact Ea rfl rfl rfl tv
 replace H := of_f H h14
 refine Ws (Wg (Wr 2 tk sg0 rfl rfl tv (Wn (Qn (Wc rfl (fun h15 => ?_) (fun h15 => ?_))))))
 ·replace H := of_t H h15
  refine WC.known (g := 19) true rfl h15 (Wk (Qn (Wc rfl (fun h => ?_) (fun h => absurd h (by decide)))))
  refine Ws (Wg (Wr 1 tk sg0 rfl rfl tv (Wn (Qn (Wt (QB.r (QT.r ?_)))))))
  cases H
  exact Ea rfl rfl rfl tv
 replace H := of_f H h15
 refine Ws (Wg (Wr 2 tk sg0 rfl rfl tv (Wn (Qn (Wc rfl (fun h16 => ?_) (fun h16 => ?_))))))
 ·replace H := of_t H h16
  refine WC.known (g := 19) true rfl h16 (Wk (Qn (Wc rfl (fun h => ?_) (fun h => absurd h (by decide)))))
  refine Ws (Wg (Wr 1 tk sg0 rfl rfl tv (Wn (Qn (Wt (QB.r (QT.r ?_)))))))
  cases H
  exact Ea rfl rfl rfl tv
 replace H := of_f H h16
 refine Ws (Wg (Wr 2 tk sg0 rfl rfl tv (Wn (Qn (Wc rfl (fun h17 => ?_) (fun h17 => ?_))))))
 ·replace H := of_t H h17
  refine WC.known (g := 19) true rfl h17 (Wk (Qn (Wc rfl (fun h => ?_) (fun h => absurd h (by decide)))))
  refine Ws (Wg (Wr 1 tk sg0 rfl rfl tv (Wn (Qn (Wt (QB.r (QT.r ?_)))))))
  cases H
  exact Ea rfl rfl rfl tv
 replace H := of_f H h17
 refine Ws (Wg (Wr 2 tk sg0 rfl rfl tv (Wn (Qn (Wc rfl (fun h18 => ?_) (fun h18 => ?_))))))
 ·replace H := of_t H h18
  refine WC.known (g := 19) true rfl h18 (Wk (Qn (Wc rfl (fun h => ?_) (fun h => absurd h (by decide)))))
  refine Ws (Wg (Wr 1 tk sg0 rfl rfl tv (Wn (Qn (Wt (QB.r (QT.r ?_)))))))
  cases H
  exact Ea rfl rfl rfl tv
 replace H := of_f H h18
 refine Ws (Wg (Wr 2 tk sg0 rfl rfl tv (Wn (Qn (Wc rfl (fun h19 => ?_) (fun h19 => ?_))))))
 ·replace H := of_t H h19
  refine WC.known (g := 19) true rfl h19 (Wk (Qn (Wc rfl (fun h => ?_) (fun h => absurd h (by decide)))))
  refine Ws (Wg (Wr 1 tk sg0 rfl rfl tv (Wn (Qn (Wt (QB.r (QT.r ?_)))))))
  cases H
  exact Ea rfl rfl rfl tv
 replace H := of_f H h19
 refine Ws (Wg (Wr 2 tk sg0 rfl rfl tv (Wn (Qn (Wc rfl (fun h20 => ?_) (fun h20 => ?_))))))
 ·replace H := of_t H h20
  refine WC.known (g := 19) true rfl h20 (Wk (Qn (Wc rfl (fun h => ?_) (fun h => absurd h (by decide)))))
  refine Ws (Wg (Wr 1 tk sg0 rfl rfl tv (Wn (Qn (Wt (QB.r (QT.r ?_)))))))
  cases H
  exact Ea rfl rfl rfl tv
 replace H := of_f H h20
 refine Wg (Wr 2 tk sg0 rfl rfl tv (Wn (Qn (Wc rfl (fun h21 => ?_) (fun h21 => ?_)))))
 ·replace H := of_t H h21
  refine Ws (Wg (Wr 1 tk sg0 rfl rfl tv (Wn (Qn (Wt (QB.r (QT.r ?_)))))))
  cases H
  exact Ea rfl rfl rfl tv
 replace H := of_f H h21
 refine Wk (Qb (Qn ?_))
 refine Ws (Ws (Wg (Wr 3 tk sg0 rfl rfl tv (Wx 2 2 true tk sg0 rfl rfl (fun _ => tv) (Wr 1 tk sg0 rfl rfl ⟨by first | exact id | exact fun h => by rw [h]; rfl | simp_all, tv⟩ (Wn (Qn (Wc rfl (fun h22 => ?_) (fun h22 => ?_)))))))))
 ·replace H := of_t H h22
  refine Ws (Wg (Wr 1 tk sg0 rfl rfl tv (Wn (Qn (Wt (QT.r ?_))))))
  cases H
  exact Ea rfl rfl rfl tv
 replace H := of_f H h22
 refine Wk (Qn (Ws (Ws (Wg (Wr 1 tk sg0 rfl rfl tv ?_)))))
 obtain ⟨x23, hx23, H⟩ := of_bind H
 refine Wf [] (op_known_0 _ hx23) op_known_f rfl rfl tv rfl rfl rfl (Wn (Qn (Wc rfl (fun h24 => ?_) (fun h24 => ?_))))
 ·replace H := of_t H h24
  refine Ws (Wg (Wr 1 tk sg0 rfl rfl tv (Wn (Qn (Wt (QT.r ?_))))))
  cases H
  exact Ea rfl rfl rfl tv
 replace H := of_f H h24
 refine Wk (Qn (Ws (Wg (Wr 1 tk sg0 rfl rfl tv (Wn (Qn (Wt ?_)))))))
 cases H
 exact Ea rfl rfl rfl tv
theorem op_shape_f : hasFunc Tryd.prog 78 Tryd.f78 := ⟨Tryd.func78, rfl, by kernel_rfl⟩

theorem op_Pops_0 (a0 : T_api_Ins) (a1 : Int) {r : Int} (H : op_Pops a0 a1 = some r) : LJ.Spec Tryd.prog 71 [.d (.agg [.int .i64 a0.Op, .int .i64 a0.A, .int .i64 a0.B]), .d (.int .i64 a1)] [] (.d (.int .i64 r)) [] := by
 refine LJ.Spec.code Tryd.func71 rfl 35 rfl rfl [] rfl fun w0 F0 S0 B0 => ?_
 unfold op_Pops at H
 refine Ws (Wg (We 102 tk ek eg0 rfl rfl rfl tv (Wr 1 tk sg0 rfl rfl tv (Wn (Qn (Ws (Wg (Wr 1 tk sg0 rfl rfl tv (Wn (Qn (Ws (Ws (Wg (Wr 2 tk sg0 rfl rfl tv (Wn (Qn (Wb ?_)))))))))))))))))
 obtain ⟨K1, hK1, H⟩ := of_withK H
 refine WC.cut (fun E m => ∃ s2 : Int, K1 s2 = some r ∧ LessW E m [(2, .ptr 102 0), (5, .d (.int .i64 s2))] [(102, .box 46 [.d (.int .i64 a0.Op), .d (.int .i64 a0.A), .d (.int .i64 a0.B)])]) ?_ ?_
 ·refine Wb (Ws (Wb (Ws (Wb (Ws (Ws (Ws (Wg (Wr 2 tk sg0 rfl rfl tv (Wn (Qn (Wc rfl (fun h3 => ?_) (fun h3 => ?_)))))))))))))
  ·replace H := of_t H h3
   refine WC.exit (Qx (Qx (Qh (Qn ?_))))
   refine Ws (Ws (Wg (Wr 2 tk sg0 rfl rfl tv (Wn (Qn (Wt (QT.r (QB.r (QT.r (QB.r (QT.r (QB.r (QT.r ?_)))))))))))))
   cases H
   exact Ea rfl rfl rfl tv
  replace H := of_f H h3
  refine Wk (Qn (Ws (Ws (Wg (Wr 2 tk sg0 rfl rfl tv (Wn (Qn (Wc rfl (fun h4 => ?_) (fun h4 => ?_)))))))))
  ·replace H := of_t H h4
   refine WC.exit (Qx (Qx (QB.miss rfl (Qx (Qh (Qn ?_))))))
   refine Wg (Wr 3 tk sg0 rfl rfl tv (Wn (Qb (Qn ?_))))
   exact ⟨IntKind.i64.wrap ((0 : Int) + 1), H, LessW.mk' ⟨Ao rfl, Ao rfl, tv⟩ ⟨rfl, tv⟩⟩
  replace H := of_f H h4
  refine Wk (Qn (Ws (Wg (Wr 2 tk sg0 rfl rfl tv (Wn (Qn (Wc rfl (fun h5 => ?_) (fun h5 => ?_))))))))
  ·replace H := of_t H h5
   refine WC.exit (Qx (QB.miss rfl (Qx (QB.miss rfl (Qx (Qh (Qn ?_)))))))
   exact ⟨0, H, LessW.mk' ⟨Ao rfl, Ao rfl, tv⟩ ⟨rfl, tv⟩⟩
  replace H := of_f H h5
  refine Wk (Qn (WC.exit (QB.miss rfl (Qx (QB.miss rfl (Qx (QB.miss rfl (Qx (Qh (Qn ?_))))))))))
  refine Ws (Ws (Wg (Wr 2 tk sg0 rfl rfl tv ?_)))
  obtain ⟨x6, hx6, H⟩ := of_bind H
  refine Wf [] (op_shape_0 _ hx6) op_shape_f rfl rfl tv rfl rfl rfl (Wn (Qn (Wb ?_)))
  obtain ⟨K7, hK7, H⟩ := of_withK H
  refine WC.cut (fun E m => ∃ s8 : Int, K7 s8 = some r ∧ LessW E m [(5, .d (.int .i64 s8))] []) ?_ ?_
  ·refine Wb (Ws (Wb (Ws (Ws (Ws (Wg (Wr 2 tk sg0 rfl rfl tv (Wn (Qn (Wc rfl (fun h9 => ?_) (fun h9 => ?_)))))))))))
   ·replace H := of_t H h9
    refine WC.exit (Qx (Qx (Qh (Qn ?_))))
    refine Wg (Wr 3 tk sg0 rfl rfl tv (Wn (Qb (Qn ?_))))
    exact ⟨IntKind.i64.wrap ((0 : Int) + 1), H, LessW.mk' ⟨Ao rfl, tv⟩ tv⟩
   replace H := of_f H h9
   refine Wk (Qn (Ws (Ws (Wg (Wr 2 tk sg0 rfl rfl tv (Wn (Qn (Wc rfl (fun h10 => ?_) (fun h10 => ?_)))))))))
   ·replace H := of_t H h10
    refine WC.known (g := 26) true rfl h10 (Wk (Qn (Wc rfl (fun h => ?_) (fun h => absurd h (by decide)))))
    refine WC.exit (Qx (QB.miss rfl (Qx (Qh (Qn ?_)))))
    exact ⟨0, H, LessW.mk' ⟨Ao rfl, tv⟩ tv⟩
   replace H := of_f H h10
   refine Ws (Wg (Wr 2 tk sg0 rfl rfl tv (Wn (Qn (Wc rfl (fun h11 => ?_) (fun h11 => ?_))))))
   ·replace H := of_t H h11
    refine WC.known (g := 26) true rfl h11 (Wk (Qn (Wc rfl (fun h => ?_) (fun h => absurd h (by decide)))))
    refine WC.exit (Qx (QB.miss rfl (Qx (Qh (Qn ?_)))))
    exact ⟨0, H, LessW.mk' ⟨Ao rfl, tv⟩ tv⟩
   replace H := of_f H h11
   refine Wg (Wr 2 tk sg0 rfl rfl tv (Wn (Qn (Wc rfl (fun h12 => ?_) (fun h12 => ?_)))))
   ·replace H := of_t H h12
    refine WC.exit (Qx (QB.miss rfl (Qx (Qh (Qn ?_)))))
    exact ⟨0, H, LessW.mk' ⟨Ao rfl, tv⟩ tv⟩
   replace H := of_f H h12
   refine Wk (Qn (WC.exit (QB.miss rfl (Qx (QB.miss rfl (Qx (Qh (Qn ?_))))))))
   refine Ws (Wg (Wr 2 tk sg0 rfl rfl tv (Wn (Qn (Wt ?_)))))
   cases H
   exact Ea rfl rfl rfl tv
  ·rintro E m ⟨s8, H, hl⟩
   refine WC.lessW hl ?_
   replace H := (hK7 _).symm.trans H
   try dsimp only at H
   refine Ws (Wg (Wr 3 tk sg0 rfl rfl tv (Wn (Qn (WC.exit (Qh (Qn ?_)))))))
   refine Ws (Wg (Wr 2 tk sg0 rfl rfl tv (Wn (Qn (Wt ?_)))))
   cases H
   exact Ea rfl rfl rfl tv
 ·rintro E m ⟨s2, H, hl⟩
  refine WC.lessW hl ?_
  replace H := (hK1 _).symm.trans H
  try dsimp only at H
  refine Ws (Ws (Wg (Wr 5 tk sg0 rfl rfl tv (Wn (Qn (Wt (QT.r (QB.r (QT.r ?_)))))))))
  cases H
  exact Ea rfl rfl rfl tv
theorem op_Pops_f : hasFunc Tryd.prog 71 Tryd.f71 := ⟨Tryd.func71, rfl, by kernel_rfl⟩

theorem op_Pushes_0 (a0 : Int) {r : Int} (H : op_Pushes a0 = some r) : LJ.Spec Tryd.prog 72 [.d (.int .i64 a0)] [] (.d (.int .i64 r)) [] := by
 refine LJ.Spec.code Tryd.func72 rfl 12 rfl rfl [] rfl fun w0 F0 S0 B0 => ?_
 unfold op_Pushes at H
 refine Ws (Wg (Wr 1 tk sg0 rfl rfl tv (Wn (Qn (Ws (Ws (Wg (Wr 1 tk sg0 rfl rfl tv ?_))))))))
 obtain ⟨x1, hx1, H⟩ := of_bind H
 refine Wf [] (op_shape_0 _ hx1) op_shape_f rfl rfl tv rfl rfl rfl (Wn (Qn (Wb (Ws (Ws (Wg (Wr 2 tk sg0 rfl rfl tv (Wn (Qn (Wc rfl (fun h2 => ?_) (fun h2 => ?_)))))))))))
 ·replace H := of_t H h2
  refine WC.known (g := 5) true rfl h2 (Wk (Qn (Wc rfl (fun h => ?_) (fun h => absurd h (by decide)))))
  refine Ws (Wg (Wr 1 tk sg0 rfl rfl tv (Wn (Qn (Wt (QB.r (QT.r ?_)))))))
  cases H
  exact Ea rfl rfl rfl tv
 replace H := of_f H h2
 refine Wg (Wr 2 tk sg0 rfl rfl tv (Wn (Qn (Wc rfl (fun h3 => ?_) (fun h3 => ?_)))))
 ·replace H := of_t H h3
  refine Ws (Wg (Wr 1 tk sg0 rfl rfl tv (Wn (Qn (Wt (QB.r (QT.r ?_)))))))
  cases H
  exact Ea rfl rfl rfl tv
 replace H := of_f H h3
 refine Ws (Ws (Wg (Wr 2 tk sg0 rfl rfl tv (Wn (Qn (Wc rfl (fun h4 => ?_) (fun h4 => ?_)))))))
 ·replace H := of_t H h4
  refine WC.known (g := 8) true rfl h4 (Wk (Qn (Wc rfl (fun h => ?_) (fun h => absurd h (by decide)))))
  refine Ws (Wg (Wr 1 tk sg0 rfl rfl tv (Wn (Qn (Wt (QB.r (QT.r ?_)))))))
  cases H
  exact Ea rfl rfl rfl tv
 replace H := of_f H h4
 refine Ws (Wg (Wr 2 tk sg0 rfl rfl tv (Wn (Qn (Wc rfl (fun h5 => ?_) (fun h5 => ?_))))))
 ·replace H := of_t H h5
  refine WC.known (g := 8) true rfl h5 (Wk (Qn (Wc rfl (fun h => ?_) (fun h => absurd h (by decide)))))
  refine Ws (Wg (Wr 1 tk sg0 rfl rfl tv (Wn (Qn (Wt (QB.r (QT.r ?_)))))))
  cases H
  exact Ea rfl rfl rfl tv
 replace H := of_f H h5
 refine Wg (Wr 2 tk sg0 rfl rfl tv (Wn (Qn (Wc rfl (fun h6 => ?_) (fun h6 => ?_)))))
 ·replace H := of_t H h6
  refine Ws (Wg (Wr 1 tk sg0 rfl rfl tv (Wn (Qn (Wt (QB.r (QT.r ?_)))))))
  cases H
  exact Ea rfl rfl rfl tv
 replace H := of_f H h6
 refine Wk (Qb (Qn ?_))
 refine Ws (Wg (Wr 1 tk sg0 rfl rfl tv (Wn (Qn (Wt ?_)))))
 cases H
 exact Ea rfl rfl rfl tv
theorem op_Pushes_f : hasFunc Tryd.prog 72 Tryd.f72 := ⟨Tryd.func72, rfl, by kernel_rfl⟩

theorem op_Goes_0 (a0 : Int) {r : Bool} (H : op_Goes a0 = some r) : LJ.Spec Tryd.prog 73 [.d (.int .i64 a0)] [] (.d (.bool r)) [] := by
 refine LJ.Spec.code Tryd.func73 rfl 13 rfl rfl [] rfl fun w0 F0 S0 B0 => ?_
 unfold op_Goes at H
 refine Ws (Wg (Wr 1 tk sg0 rfl rfl tv (Wn (Qn (Ws (Wg (Wr 1 tk sg0 rfl rfl tv ?_)))))))
 obtain ⟨x1, hx1, H⟩ := of_bind H
 refine Wf [] (op_known_0 _ hx1) op_known_f rfl rfl tv rfl rfl rfl (Wr 1 tk sg0 rfl rfl tv (Wx 2 2 true tk sg0 rfl rfl (fun _ => tv) (Wr 2 tk sg0 rfl rfl ⟨by first | exact id | exact fun h => by rw [h]; rfl | simp_all, tv⟩ (Wx 2 6 true tk sg0 rfl rfl (fun _ => tv) (Wr 2 tk sg0 rfl rfl ⟨by first | exact id | exact fun h => by rw [h]; rfl | simp_all, tv⟩ (Wn (Qn (Wt ?_))))))))
 cases H
 exact Ea rfl rfl rfl tv
theorem op_Goes_f : hasFunc Tryd.prog 73 Tryd.f73 := ⟨Tryd.func73, rfl, by kernel_rfl⟩

theorem depth_walk_look_0 (a0 : T_depth_walk) (a1 : Int) {r : T_depth_walk} (H : depth_walk_look a0 a1 = some r) : LJ.Spec Tryd.prog 57 [.ptr 0 0, .d (.int .i64 a1)] [(0, .box 97 [.d (slT enc_api_Decl a0.p.Decls), .d (slT enc_sl_sl_api_Need a0.p.Waits), .d (slT enc_api_Func a0.p.Funcs), .d (slT enc_api_Ins a0.code), .own 1, .own 2, .d (.int .i64 a0.at_), .d (.int .i64 a0.err)]), (1, .row 3 1 (a0.depth.map enc_i64)), (2, .row 4 1 (a0.next.map enc_bool))] (.tup []) [(1, .row 3 1 (r.depth.map enc_i64)), (2, .row 4 1 (r.next.map enc_bool)), (0, .box 97 [.d (slT enc_api_Decl r.p.Decls), .d (slT enc_sl_sl_api_Need r.p.Waits), .d (slT enc_api_Func r.p.Funcs), .d (slT enc_api_Ins r.code), .own 1, .own 2, .d (.int .i64 r.at_), .d (.int .i64 r.err)])] := by
 refine LJ.Spec.code Tryd.func57 rfl 90 rfl rfl [0] rfl fun w0 F0 S0 B0 => ?_
 unfold depth_walk_look at H
 refine Ws (Wg ?_)
 obtain ⟨g1, H⟩ := of_need H
 refine Wr 7 tk sg0 rfl rfl ⟨⟨(nIn_ok g1).1, (nIn_ok g1).2, rfl⟩, tv⟩ (Wa 104 tk rfl rfl rfl (We 0 tk ek eg0 rfl rfl rfl tv (Wr 1 tk sg0 rfl rfl tv (Wn (Qn (Ws (Ws (Hp (.one 0 true (.one 1 true (.one 2 true (.one 3 true (.one 4 true (.one 5 true (.one 6 true (.one 7 true (.one 8 true (.one 9 true (.one 10 true (.one 11 true (.one 12 true (.one 13 true .done)))))))))))))) [0, 104] [0, 104] rfl (by kernel_rfl) rfl (by kernel_rfl) rfl rfl (fun _ h => h) rfl rfl rfl (fun _ _ _ h => h) fun FK NK wK K => (Hr 4 tk rfl rfl rfl rfl tv (WH.sect 9 3 true tk rfl rfl rfl rfl (fun _ => tv) (Hr 1 tk rfl rfl rfl rfl ⟨by first | exact id | exact fun h => by rw [h]; rfl | simp_all, tv⟩ (WH.nil rfl (Qn (Wc rfl (fun h2 => ?_) (fun h2 => ?_)))))))))))))))
 ·replace H := of_t H h2
  refine Hp (.one 0 true (.one 1 true (.one 2 true (.one 3 true (.one 4 true (.one 5 true (.one 6 true (.one 7 true (.one 8 true (.one 9 true (.one 10 true .done))))))))))) [0, 104] [0, 104] rfl (by kernel_rfl) rfl (by kernel_rfl) rfl rfl (fun _ h => h) rfl rfl rfl (fun _ _ _ h => h) fun FK NK wK K => ?_
  obtain ⟨g3, H⟩ := of_need H
  refine Hr 11 tk rfl rfl rfl rfl ⟨⟨(nIn_ok g3).1, (nIn_ok g3).2, rfl⟩, tv⟩ (WH.nil rfl (Qn (Ws ?_)))
  obtain ⟨g3_5_1, H⟩ := of_need H
  obtain ⟨x3_9_1, hx3_9_1, H⟩ := of_bind H
  refine WC.heldF [(0, .ptr 0 0), (1, .d (.int .i64 a1)), (4, .ptr 104 0), (6, .d (.int .i64 (IntKind.i64.wrap ((a0.depth.getD a1.toNat default) - x3_9_1))))] [(0, .box 97 [.d (slT enc_api_Decl a0.p.Decls), .d (slT enc_sl_sl_api_Need a0.p.Waits), .d (slT enc_api_Func a0.p.Funcs), .d (slT enc_api_Ins a0.code), .own 1, .own 2, .d (.int .i64 a0.at_), .d (.int .i64 a0.err)]), (1, .row 3 1 (a0.depth.map enc_i64)), (2, .row 4 1 (a0.next.map enc_bool)), (104, .box 46 [.d (.int .i64 ((a0.code.getD a1.toNat default).Op)), .d (.int .i64 ((a0.code.getD a1.toNat default).A)), .d (.int .i64 ((a0.code.getD a1.toNat default).B))])] (.one 0 true (.one 1 true (.one 2 true (.one 4 true (.one 7 true (.one 8 true (.fork (.one 3 false (.fork (.one 5 false (.fork (.one 6 false (.one 9 false (.one 10 true (.one 11 true .done)))) (.one 9 false (.one 6 false (.one 10 true (.one 11 true .done)))))) (.one 9 false (.one 5 false (.one 6 false (.one 10 true (.one 11 true .done))))))) (.one 9 false (.one 3 false (.one 5 false (.one 6 false (.one 10 true (.one 11 true .done))))))))))))) [0, 104] [0, 104] rfl (by kernel_rfl) rfl (by kernel_rfl) rfl rfl (fun _ h => h) rfl rfl rfl (fun FK NK wK K => ?_) ?_
  ·refine Hr 6 tk rfl rfl rfl rfl tv (WH.fork ?_ ?_)
   ·refine WH.val tk rfl rfl rfl rfl rfl tv rfl rfl (WH.fork ?_ ?_)
    ·refine WH.yvs rfl (LJ.Y.idxRel enc_i64 a0.depth a1 tk rfl rfl rfl rfl rfl (nIn_ok g3_5_1)) rfl rfl rfl rfl rfl (WH.fork ?_ ?_)
     ·exact WH.yvs rfl (LJ.Y.loadRel enc_i64 a0.depth a1 0 rfl rfl (fun _ => rfl) rfl (by kernel_rfl) rfl (by first | exact nIn_ok g3_5_1 | (have := nIn_ok g3_5_1; simpa only [List.length_set, List.length_map] using this))) rfl rfl rfl rfl rfl (WH.call [] rfl (op_Pops_0 _ _ hx3_9_1) op_Pops_f rfl rfl tv rfl rfl rfl rfl rfl (Hr 2 tk rfl rfl rfl rfl tv (Hn rfl (LessW.mk' ⟨Ao rfl, Ao rfl, Ao rfl, Ao rfl, tv⟩ ⟨rfl, rfl, rfl, rfl, tv⟩))))
     ·exact WH.call [] rfl (op_Pops_0 _ _ hx3_9_1) op_Pops_f rfl rfl tv rfl rfl rfl rfl rfl (WH.yvs rfl (LJ.Y.loadRel enc_i64 a0.depth a1 0 rfl rfl (fun _ => rfl) rfl (by kernel_rfl) rfl (by first | exact nIn_ok g3_5_1 | (have := nIn_ok g3_5_1; simpa only [List.length_set, List.length_map] using this))) rfl rfl rfl rfl rfl (Hr 2 tk rfl rfl rfl rfl tv (Hn rfl (LessW.mk' ⟨Ao rfl, Ao rfl, Ao rfl, Ao rfl, tv⟩ ⟨rfl, rfl, rfl, rfl, tv⟩))))
    ·exact WH.call [] rfl (op_Pops_0 _ _ hx3_9_1) op_Pops_f rfl rfl tv rfl rfl rfl rfl rfl (WH.yvs rfl (LJ.Y.idxRel enc_i64 a0.depth a1 tk rfl rfl rfl rfl rfl (nIn_ok g3_5_1)) rfl rfl rfl rfl rfl (WH.yvs rfl (LJ.Y.loadRel enc_i64 a0.depth a1 0 rfl rfl (fun _ => rfl) rfl (by kernel_rfl) rfl (by first | exact nIn_ok g3_5_1 | (have := nIn_ok g3_5_1; simpa only [List.length_set, List.length_map] using this))) rfl rfl rfl rfl rfl (Hr 2 tk rfl rfl rfl rfl tv (Hn rfl (LessW.mk' ⟨Ao rfl, Ao rfl, Ao rfl, Ao rfl, tv⟩ ⟨rfl, rfl, rfl, rfl, tv⟩)))))
   ·exact WH.call [] rfl (op_Pops_0 _ _ hx3_9_1) op_Pops_f rfl rfl tv rfl rfl rfl rfl rfl (WH.val tk rfl rfl rfl rfl rfl tv rfl rfl (WH.yvs rfl (LJ.Y.idxRel enc_i64 a0.depth a1 tk rfl rfl rfl rfl rfl (nIn_ok g3_5_1)) rfl rfl rfl rfl rfl (WH.yvs rfl (LJ.Y.loadRel enc_i64 a0.depth a1 0 rfl rfl (fun _ => rfl) rfl (by kernel_rfl) rfl (by first | exact nIn_ok g3_5_1 | (have := nIn_ok g3_5_1; simpa only [List.length_set, List.length_map] using this))) rfl rfl rfl rfl rfl (Hr 2 tk rfl rfl rfl rfl tv (Hn rfl (LessW.mk' ⟨Ao rfl, Ao rfl, Ao rfl, Ao rfl, tv⟩ ⟨rfl, rfl, rfl, rfl, tv⟩))))))
  ·refine Qn (Ws (Ws (Wg (Wr 2 tk sg0 rfl rfl tv (Wn (Qn (Wc rfl (fun h4 => ?_) (fun h4 => ?_))))))))
   ·replace H := of_t H h4
    refine Ws (Wg (Wr 2 tk sg0 rfl rfl tv ?_))
    obtain ⟨x5, hx5, H⟩ := of_bind H
    refine Wf [1, 2] (depth_walk_wrong_s 0 1 2 rfl _ _ _ hx5) depth_walk_wrong_f rfl rfl ⟨rfl, rfl, rfl, tv⟩ rfl rfl rfl (Wn (Qn (Wt (QT.r ?_))))
    cases H
    exact Ea rfl rfl rfl ⟨rfl, rfl, rfl, tv⟩
   replace H := of_f H h4
   refine Wk (Qn (Ws (Ws (Wg (Wr 3 tk sg0 rfl rfl tv ?_)))))
   obtain ⟨x6, hx6, H⟩ := of_bind H
   refine Wf [] (op_Pushes_0 _ hx6) op_Pushes_f rfl rfl tv rfl rfl rfl (Wr 2 tk sg0 rfl rfl tv (Wn (Qn (Ws (Wg (Wr 2 tk sg0 rfl rfl tv (Wn (Qn (Wc rfl (fun h7 => ?_) (fun h7 => ?_))))))))))
   ·replace H := of_t H h7
    refine Ws (Wg (Wr 2 tk sg0 rfl rfl tv ?_))
    obtain ⟨x8, hx8, H⟩ := of_bind H
    refine Wf [1, 2] (depth_walk_wrong_s 0 1 2 rfl _ _ _ hx8) depth_walk_wrong_f rfl rfl ⟨rfl, rfl, rfl, tv⟩ rfl rfl rfl (Wn (Qn (Wt (QT.r ?_))))
    cases H
    exact Ea rfl rfl rfl ⟨rfl, rfl, rfl, tv⟩
   replace H := of_f H h7
   refine Wk (Qn (Ws (Ws (Wg (Wr 2 tk sg0 rfl rfl tv ?_)))))
   obtain ⟨x9, hx9, H⟩ := of_bind H
   refine Wf [] (op_Goes_0 _ hx9) op_Goes_f rfl rfl tv rfl rfl rfl (Wr 1 tk sg0 rfl rfl tv (WL.split (g := 67) rfl (fun h10 => ?_) (fun h10 => ?_)))
   ·replace H := of_t H h10
    refine WL.grun 5 3 true 67 tk sg0 rfl rfl rfl rfl tv ?_
    obtain ⟨x11, hx11, H⟩ := of_bind H
    refine WL.gcall [1, 2] (depth_walk_leads_s 0 1 2 rfl _ _ _ _ hx11) depth_walk_leads_f rfl rfl ⟨rfl, rfl, rfl, tv⟩ rfl rfl rfl rfl rfl rfl (WL.grun 1 3 true 67 tk sg0 rfl rfl rfl rfl tv (WL.pickT rfl rfl rfl rfl rfl rfl (Wn (Qn (Wc rfl (fun h12 => ?_) (fun h12 => ?_))))))
    ·replace H := of_t H h12
     refine Wt (QT.r ?_)
     cases H
     exact Ea rfl rfl rfl ⟨rfl, rfl, rfl, tv⟩
    replace H := of_f H h12
    refine Wk (Qn (Ws (Wg (Wr 4 tk sg0 rfl rfl tv (Wx 3 3 false tk sg0 rfl rfl (fun _ => tv) (Wr 1 tk sg0 rfl rfl ⟨by first | exact id | exact fun h => by rw [h]; rfl | simp_all, tv⟩ (Wn (Qn (Wc rfl (fun h13 => ?_) (fun h13 => ?_))))))))))
    ·replace H := of_t H h13
     refine Wg (Wr 5 tk sg0 rfl rfl tv ?_)
     obtain ⟨x14, hx14, H⟩ := of_bind H
     refine Wf [1, 2] (depth_walk_leads_s 0 1 2 rfl _ _ _ _ hx14) depth_walk_leads_f rfl rfl ⟨rfl, rfl, rfl, tv⟩ rfl rfl rfl (Wn ?_)
     cases H
     exact Ends.auton rfl rfl rfl ⟨rfl, rfl, rfl, tv⟩
    replace H := of_f H h13
    refine Wk ?_
    cases H
    exact Ends.auton rfl rfl rfl ⟨rfl, rfl, rfl, tv⟩
   ·replace H := of_f H h10
    refine WL.gskips 7 3 true 67 rfl rfl rfl rfl (WL.pickF rfl rfl rfl rfl rfl rfl (Wn (Qn (Wc rfl (fun h => absurd h (by decide)) (fun h => ?_)))))
    refine Wk (Qn (Ws (Wg (Wr 4 tk sg0 rfl rfl tv (Wx 3 3 false tk sg0 rfl rfl (fun _ => tv) (Wr 1 tk sg0 rfl rfl ⟨by first | exact id | exact fun h => by rw [h]; rfl | simp_all, tv⟩ (Wn (Qn (Wc rfl (fun h15 => ?_) (fun h15 => ?_))))))))))
    ·replace H := of_t H h15
     refine Wg (Wr 5 tk sg0 rfl rfl tv ?_)
     obtain ⟨x16, hx16, H⟩ := of_bind H
     refine Wf [1, 2] (depth_walk_leads_s 0 1 2 rfl _ _ _ _ hx16) depth_walk_leads_f rfl rfl ⟨rfl, rfl, rfl, tv⟩ rfl rfl rfl (Wn ?_)
     cases H
     exact Ends.auton rfl rfl rfl ⟨rfl, rfl, rfl, tv⟩
    replace H := of_f H h15
    refine Wk ?_
    cases H
    exact Ends.auton rfl rfl rfl ⟨rfl, rfl, rfl, tv⟩
 replace H := of_f H h2
 refine Wk (Qn (Ws ?_))
 obtain ⟨g3_5_1, H⟩ := of_need H
 obtain ⟨x3_9_1, hx3_9_1, H⟩ := of_bind H
 refine WC.heldF [(0, .ptr 0 0), (1, .d (.int .i64 a1)), (4, .ptr 104 0), (6, .d (.int .i64 (IntKind.i64.wrap ((a0.depth.getD a1.toNat default) - x3_9_1))))] [(0, .box 97 [.d (slT enc_api_Decl a0.p.Decls), .d (slT enc_sl_sl_api_Need a0.p.Waits), .d (slT enc_api_Func a0.p.Funcs), .d (slT enc_api_Ins a0.code), .own 1, .own 2, .d (.int .i64 a0.at_), .d (.int .i64 a0.err)]), (1, .row 3 1 (a0.depth.map enc_i64)), (2, .row 4 1 (a0.next.map enc_bool)), (104, .box 46 [.d (.int .i64 ((a0.code.getD a1.toNat default).Op)), .d (.int .i64 ((a0.code.getD a1.toNat default).A)), .d (.int .i64 ((a0.code.getD a1.toNat default).B))])] (.one 0 true (.one 1 true (.one 2 true (.one 4 true (.one 7 true (.one 8 true (.fork (.one 3 false (.fork (.one 5 false (.fork (.one 6 false (.one 9 false (.one 10 true (.one 11 true .done)))) (.one 9 false (.one 6 false (.one 10 true (.one 11 true .done)))))) (.one 9 false (.one 5 false (.one 6 false (.one 10 true (.one 11 true .done))))))) (.one 9 false (.one 3 false (.one 5 false (.one 6 false (.one 10 true (.one 11 true .done))))))))))))) [0, 104] [0, 104] rfl (by kernel_rfl) rfl (by kernel_rfl) rfl rfl (fun _ h => h) rfl rfl rfl (fun FK NK wK K => ?_) ?_
 ·refine Hr 6 tk rfl rfl rfl rfl tv (WH.fork ?_ ?_)
  ·refine WH.val tk rfl rfl rfl rfl rfl tv rfl rfl (WH.fork ?_ ?_)
   ·refine WH.yvs rfl (LJ.Y.idxRel enc_i64 a0.depth a1 tk rfl rfl rfl rfl rfl (nIn_ok g3_5_1)) rfl rfl rfl rfl rfl (WH.fork ?_ ?_)
    ·exact WH.yvs rfl (LJ.Y.loadRel enc_i64 a0.depth a1 0 rfl rfl (fun _ => rfl) rfl (by kernel_rfl) rfl (by first | exact nIn_ok g3_5_1 | (have := nIn_ok g3_5_1; simpa only [List.length_set, List.length_map] using this))) rfl rfl rfl rfl rfl (WH.call [] rfl (op_Pops_0 _ _ hx3_9_1) op_Pops_f rfl rfl tv rfl rfl rfl rfl rfl (Hr 2 tk rfl rfl rfl rfl tv (Hn rfl (LessW.mk' ⟨Ao rfl, Ao rfl, Ao rfl, Ao rfl, tv⟩ ⟨rfl, rfl, rfl, rfl, tv⟩))))
    ·exact WH.call [] rfl (op_Pops_0 _ _ hx3_9_1) op_Pops_f rfl rfl tv rfl rfl rfl rfl rfl (WH.yvs rfl (LJ.Y.loadRel enc_i64 a0.depth a1 0 rfl rfl (fun _ => rfl) rfl (by kernel_rfl) rfl (by first | exact nIn_ok g3_5_1 | (have := nIn_ok g3_5_1; simpa only [List.length_set, List.length_map] using this))) rfl rfl rfl rfl rfl (Hr 2 tk rfl rfl rfl rfl tv (Hn rfl (LessW.mk' ⟨Ao rfl, Ao rfl, Ao rfl, Ao rfl, tv⟩ ⟨rfl, rfl, rfl, rfl, tv⟩))))
   ·exact WH.call [] rfl (op_Pops_0 _ _ hx3_9_1) op_Pops_f rfl rfl tv rfl rfl rfl rfl rfl (WH.yvs rfl (LJ.Y.idxRel enc_i64 a0.depth a1 tk rfl rfl rfl rfl rfl (nIn_ok g3_5_1)) rfl rfl rfl rfl rfl (WH.yvs rfl (LJ.Y.loadRel enc_i64 a0.depth a1 0 rfl rfl (fun _ => rfl) rfl (by kernel_rfl) rfl (by first | exact nIn_ok g3_5_1 | (have := nIn_ok g3_5_1; simpa only [List.length_set, List.length_map] using this))) rfl rfl rfl rfl rfl (Hr 2 tk rfl rfl rfl rfl tv (Hn rfl (LessW.mk' ⟨Ao rfl, Ao rfl, Ao rfl, Ao rfl, tv⟩ ⟨rfl, rfl, rfl, rfl, tv⟩)))))
  ·exact WH.call [] rfl (op_Pops_0 _ _ hx3_9_1) op_Pops_f rfl rfl tv rfl rfl rfl rfl rfl (WH.val tk rfl rfl rfl rfl rfl tv rfl rfl (WH.yvs rfl (LJ.Y.idxRel enc_i64 a0.depth a1 tk rfl rfl rfl rfl rfl (nIn_ok g3_5_1)) rfl rfl rfl rfl rfl (WH.yvs rfl (LJ.Y.loadRel enc_i64 a0.depth a1 0 rfl rfl (fun _ => rfl) rfl (by kernel_rfl) rfl (by first | exact nIn_ok g3_5_1 | (have := nIn_ok g3_5_1; simpa only [List.length_set, List.length_map] using this))) rfl rfl rfl rfl rfl (Hr 2 tk rfl rfl rfl rfl tv (Hn rfl (LessW.mk' ⟨Ao rfl, Ao rfl, Ao rfl, Ao rfl, tv⟩ ⟨rfl, rfl, rfl, rfl, tv⟩))))))
 ·refine Qn (Ws (Ws (Wg (Wr 2 tk sg0 rfl rfl tv (Wn (Qn (Wc rfl (fun h17 => ?_) (fun h17 => ?_))))))))
  ·replace H := of_t H h17
   refine Ws (Wg (Wr 2 tk sg0 rfl rfl tv ?_))
   obtain ⟨x18, hx18, H⟩ := of_bind H
   refine Wf [1, 2] (depth_walk_wrong_s 0 1 2 rfl _ _ _ hx18) depth_walk_wrong_f rfl rfl ⟨rfl, rfl, rfl, tv⟩ rfl rfl rfl (Wn (Qn (Wt (QT.r ?_))))
   cases H
   exact Ea rfl rfl rfl ⟨rfl, rfl, rfl, tv⟩
  replace H := of_f H h17
  refine Wk (Qn (Ws (Ws (Wg (Wr 3 tk sg0 rfl rfl tv ?_)))))
  obtain ⟨x19, hx19, H⟩ := of_bind H
  refine Wf [] (op_Pushes_0 _ hx19) op_Pushes_f rfl rfl tv rfl rfl rfl (Wr 2 tk sg0 rfl rfl tv (Wn (Qn (Ws (Wg (Wr 2 tk sg0 rfl rfl tv (Wn (Qn (Wc rfl (fun h20 => ?_) (fun h20 => ?_))))))))))
  ·replace H := of_t H h20
   refine Ws (Wg (Wr 2 tk sg0 rfl rfl tv ?_))
   obtain ⟨x21, hx21, H⟩ := of_bind H
   refine Wf [1, 2] (depth_walk_wrong_s 0 1 2 rfl _ _ _ hx21) depth_walk_wrong_f rfl rfl ⟨rfl, rfl, rfl, tv⟩ rfl rfl rfl (Wn (Qn (Wt (QT.r ?_))))
   cases H
   exact Ea rfl rfl rfl ⟨rfl, rfl, rfl, tv⟩
  replace H := of_f H h20
  refine Wk (Qn (Ws (Ws (Wg (Wr 2 tk sg0 rfl rfl tv ?_)))))
  obtain ⟨x22, hx22, H⟩ := of_bind H
  refine Wf [] (op_Goes_0 _ hx22) op_Goes_f rfl rfl tv rfl rfl rfl (Wr 1 tk sg0 rfl rfl tv (WL.split (g := 67) rfl (fun h23 => ?_) (fun h23 => ?_)))
  ·replace H := of_t H h23
   refine WL.grun 5 3 true 67 tk sg0 rfl rfl rfl rfl tv ?_
   obtain ⟨x24, hx24, H⟩ := of_bind H
   refine WL.gcall [1, 2] (depth_walk_leads_s 0 1 2 rfl _ _ _ _ hx24) depth_walk_leads_f rfl rfl ⟨rfl, rfl, rfl, tv⟩ rfl rfl rfl rfl rfl rfl (WL.grun 1 3 true 67 tk sg0 rfl rfl rfl rfl tv (WL.pickT rfl rfl rfl rfl rfl rfl (Wn (Qn (Wc rfl (fun h25 => ?_) (fun h25 => ?_))))))
   ·replace H := of_t H h25
    refine Wt (QT.r ?_)
    cases H
    exact Ea rfl rfl rfl ⟨rfl, rfl, rfl, tv⟩
   replace H := of_f H h25
   refine Wk (Qn (Ws (Wg (Wr 4 tk sg0 rfl rfl tv (Wx 3 3 false tk sg0 rfl rfl (fun _ => tv) (Wr 1 tk sg0 rfl rfl ⟨by first | exact id | exact fun h => by rw [h]; rfl | simp_all, tv⟩ (Wn (Qn (Wc rfl (fun h26 => ?_) (fun h26 => ?_))))))))))
   ·replace H := of_t H h26
    refine Wg (Wr 5 tk sg0 rfl rfl tv ?_)
    obtain ⟨x27, hx27, H⟩ := of_bind H
    refine Wf [1, 2] (depth_walk_leads_s 0 1 2 rfl _ _ _ _ hx27) depth_walk_leads_f rfl rfl ⟨rfl, rfl, rfl, tv⟩ rfl rfl rfl (Wn ?_)
    cases H
    exact Ends.auton rfl rfl rfl ⟨rfl, rfl, rfl, tv⟩
   replace H := of_f H h26
   refine Wk ?_
   cases H
   exact Ends.auton rfl rfl rfl ⟨rfl, rfl, rfl, tv⟩
  ·replace H := of_f H h23
   refine WL.gskips 7 3 true 67 rfl rfl rfl rfl (WL.pickF rfl rfl rfl rfl rfl rfl (Wn (Qn (Wc rfl (fun h => absurd h (by decide)) (fun h => ?_)))))
   refine Wk (Qn (Ws (Wg (Wr 4 tk sg0 rfl rfl tv (Wx 3 3 false tk sg0 rfl rfl (fun _ => tv) (Wr 1 tk sg0 rfl rfl ⟨by first | exact id | exact fun h => by rw [h]; rfl | simp_all, tv⟩ (Wn (Qn (Wc rfl (fun h28 => ?_) (fun h28 => ?_))))))))))
   ·replace H := of_t H h28
    refine Wg (Wr 5 tk sg0 rfl rfl tv ?_)
    obtain ⟨x29, hx29, H⟩ := of_bind H
    refine Wf [1, 2] (depth_walk_leads_s 0 1 2 rfl _ _ _ _ hx29) depth_walk_leads_f rfl rfl ⟨rfl, rfl, rfl, tv⟩ rfl rfl rfl (Wn ?_)
    cases H
    exact Ends.auton rfl rfl rfl ⟨rfl, rfl, rfl, tv⟩
   replace H := of_f H h28
   refine Wk ?_
   cases H
   exact Ends.auton rfl rfl rfl ⟨rfl, rfl, rfl, tv⟩
theorem depth_walk_look_s (n0 n1 n2 : Nat) (hn : nodupB [n0, n1, n2] = true) (a0 : T_depth_walk) (a1 : Int) {r : T_depth_walk} (H : depth_walk_look a0 a1 = some r) : LJ.Spec Tryd.prog 57 [.ptr n0 0, .d (.int .i64 a1)] [(n0, .box 97 [.d (slT enc_api_Decl a0.p.Decls), .d (slT enc_sl_sl_api_Need a0.p.Waits), .d (slT enc_api_Func a0.p.Funcs), .d (slT enc_api_Ins a0.code), .own n1, .own n2, .d (.int .i64 a0.at_), .d (.int .i64 a0.err)]), (n1, .row 3 1 (a0.depth.map enc_i64)), (n2, .row 4 1 (a0.next.map enc_bool))] (.tup []) [(n1, .row 3 1 (r.depth.map enc_i64)), (n2, .row 4 1 (r.next.map enc_bool)), (n0, .box 97 [.d (slT enc_api_Decl r.p.Decls), .d (slT enc_sl_sl_api_Need r.p.Waits), .d (slT enc_api_Func r.p.Funcs), .d (slT enc_api_Ins r.code), .own n1, .own n2, .d (.int .i64 r.at_), .d (.int .i64 r.err)])] :=
 Spec.names [n0, n1, n2] hn rfl rfl (depth_walk_look_0 a0 a1 H)
theorem depth_walk_look_f : hasFunc Tryd.prog 57 Tryd.f57 := ⟨Tryd.func57, rfl, by kernel_rfl⟩

theorem depth_Of_0 (a0 : T_api_Program) (a1 : Int) {r : (List Int) × Int × Int} (H : depth_Of a0 a1 = some r) : LJ.Spec Tryd.prog 38 [.d (.agg [slT enc_api_Decl a0.Decls, slT enc_sl_sl_api_Need a0.Waits, slT enc_api_Func a0.Funcs]), .d (.int .i64 a1)] [] (.tup [.d (slT enc_i64 r.1), .d (.int .i64 r.2.1), .d (.int .i64 r.2.2)]) [] := by
 refine LJ.Spec.code Tryd.func38 rfl 101 rfl rfl [] rfl fun w0 F0 S0 B0 => ?_
 unfold depth_Of at H
 refine Ws (Wg (We 102 tk ek eg0 rfl rfl rfl tv (Wr 3 tk sg0 rfl rfl tv (Wn (Qn (Ws (Ws (Wg (Wr 3 tk sg0 rfl rfl tv (Wx 5 2 false tk sg0 rfl rfl (fun _ => tv) (Wr 1 tk sg0 rfl rfl ⟨by first | exact id | exact fun h => by rw [h]; rfl | simp_all, tv⟩ (Wn (Qn (Wc rfl (fun h1 => ?_) (fun h1 => ?_)))))))))))))))
 ·replace H := of_t H h1
  refine Ws (Wg (Wr 3 tk sg0 rfl rfl tv (Wn (Qn (WC.nilT 4 enc_i64 rfl (Wt (QT.r ?_)))))))
  cases H
  exact Ea rfl rfl rfl tv
 replace H := of_f H h1
 refine Wk (Qn (Ws (Hp (.one 0 true (.one 1 true (.one 2 true (.one 3 true (.one 4 true (.one 5 true (.one 6 true (.one 7 true (.one 8 false (.one 9 true .done)))))))))) [102] [102] rfl (by kernel_rfl) rfl (by kernel_rfl) rfl rfl (fun _ h => h) rfl rfl rfl (fun _ _ _ h => h) fun FK NK wK K => ?_)))
 obtain ⟨g2, H⟩ := of_need H
 refine Hr 8 tk rfl rfl rfl rfl ⟨⟨(nIn_ok g2).1, (nIn_ok g2).2, rfl⟩, tv⟩ (He 127 tk ek rfl rfl rfl rfl tv rfl rfl (WH.mv rfl rfl rfl rfl rfl rfl rfl rfl rfl (WH.nil rfl (Qn (Ws (Wg (Wr 6 tk sg0 rfl rfl tv ?_)))))))
 obtain ⟨g3, H⟩ := of_need H
 refine WL.makeT (r := 134) enc_i64 (0 : Int) (((a0.Funcs.getD a1.toNat default).Code).length : Int) tk ek rfl rfl rfl rfl rfl rfl rfl (nMk_ok g3) rfl rfl rfl rfl (Wr 2 tk sg0 rfl rfl tv (We 0 tk ek eg0 rfl rfl rfl tv (Wn (Qn (Ws (Ws (Wg (Wr 6 tk sg0 rfl rfl tv (Wn (Qn (Wb (Wl (ι := {x : Nat × (Int × (List Int)) // depth_Of_l5 a0 a1 x.1 x.2 = some r}) (fun x => [(7, .ptr 127 0), (41, .d (.int .i64 (((List.replicate (((a0.Funcs.getD a1.toNat default).Code).length : Int).toNat (0 : Int)).map enc_i64).length : Int))), (42, .d (.int .i64 x.1.2.1))]) (fun x => [(127, .box 97 [.d (slT enc_api_Decl a0.Decls), .d (slT enc_sl_sl_api_Need a0.Waits), .d (slT enc_api_Func a0.Funcs), .d (slT enc_api_Ins ((a0.Funcs.getD a1.toNat default).Code)), .own 134, .d (.nils), .d (.int .i64 0), .d (.int .i64 0)]), (134, .row 3 1 (x.1.2.2.map enc_i64))]) (fun x => x.1.1) ⟨(fuel, (0, List.replicate (((a0.Funcs.getD a1.toNat default).Code).length : Int).toNat (0 : Int))), H⟩ (Less.mk' ⟨rfl, rfl, rfl, tv⟩ ⟨rfl, rfl, tv⟩) fun x => ?_))))))))))))
 obtain ⟨⟨k5, s4⟩, H⟩ := x
 rcases k5 with _ | k5
 ·exact of_none H
 rw [depth_Of_l5] at H
 refine Ws (Wg (Wr 1 tk sg0 rfl rfl tv (Wn (Qn (Ws (Wc rfl (fun h6 => ?_) (fun h6 => ?_)))))))
 ·replace H := of_t H h6
  refine Wk (Qn (Ws (Wb (Ws (Wg (Wr 2 tk sg0 rfl rfl tv (Wn (Qn (Wg (Wr 5 tk sg0 rfl rfl tv ?_))))))))))
  obtain ⟨g7, H⟩ := of_need H
  refine WL.yv (LJ.Y.idxRel enc_i64 s4.2 s4.1 tk rfl rfl rfl rfl rfl (nIn_ok g7)) rfl rfl rfl (WL.storeRel enc_i64 s4.2 s4.1 0 (-1) (.int .i64 (-1)) rfl rfl rfl rfl (fun _ => rfl) rfl (by kernel_rfl) rfl rfl (by first | exact nIn_ok g7 | (have := nIn_ok g7; simpa only [List.length_set, List.length_map] using this)) rfl rfl rfl rfl ?_)
  refine Wn (Qb (Qn ?_))
  exact Wg (Wr 2 tk sg0 rfl rfl tv (Wn (Qn (⟨⟨(k5, (IntKind.i64.wrap (s4.1 + 1), s4.2.set s4.1.toNat (-1))), H⟩, Nat.lt_succ_self _, Less.mk' ⟨rfl, rfl, rfl, tv⟩ ⟨rfl, rfl, tv⟩⟩))))
 replace H := of_f H h6
 refine WC.exit (Qx (Qx (Qh (Qn ?_))))
 refine Ws (Ws (Wg (Wr 6 tk sg0 rfl rfl tv (Wn (Qn (Wc rfl (fun h8 => ?_) (fun h8 => ?_)))))))
 ·replace H := of_t H h8
  refine Ws (Wg (Wr 3 tk sg0 rfl rfl tv (Wn (Qn (WC.nilT 4 enc_i64 rfl (Wt (QT.r ?_)))))))
  cases H
  exact Ea rfl rfl rfl tv
 replace H := of_f H h8
 refine Wk (Qn (Ws (Wg (Wr 6 tk sg0 rfl rfl tv ?_))))
 obtain ⟨g9, H⟩ := of_need H
 refine WL.makeT (r := 164) enc_bool (false : Bool) (((a0.Funcs.getD a1.toNat default).Code).length : Int) tk ek rfl rfl rfl rfl rfl rfl rfl (nMk_ok g9) rfl rfl rfl rfl (Wr 2 tk sg0 rfl rfl tv (We 0 tk ek eg0 rfl rfl rfl tv (Wn (Qn (Ws (Wg (Wr 1 tk sg0 rfl rfl tv ?_)))))))
 obtain ⟨x10, hx10, H⟩ := of_bind H
 refine Wf [134, 164] (depth_walk_leads_s 127 134 164 rfl _ _ _ _ hx10) depth_walk_leads_f rfl rfl ⟨rfl, rfl, rfl, tv⟩ rfl rfl rfl (Wn (Qn (Ws (Ws (Wg (Wr 1 tk sg0 rfl rfl tv ?_))))))
 obtain ⟨x11, hx11, H⟩ := of_bind H
 refine Wf [134, 164] (depth_walk_least_s 127 134 164 rfl _ hx11) depth_walk_least_f rfl rfl ⟨rfl, rfl, rfl, tv⟩ rfl rfl rfl (Wr 1 tk sg0 rfl rfl tv (Wn (Qn (Wb (Wl (ι := {x : Nat × (Int × (List T_api_Decl) × (List (List (List T_api_Need))) × (List T_api_Func) × (List T_api_Ins) × Int × Int × (List Int) × (List Bool)) // depth_Of_l13 x.1 x.2 = some r}) (fun x => [(7, .ptr 127 0), (9, .d (.int .i64 x.1.2.1))]) (fun x => [(127, .box 97 [.d (slT enc_api_Decl x.1.2.2.1), .d (slT enc_sl_sl_api_Need x.1.2.2.2.1), .d (slT enc_api_Func x.1.2.2.2.2.1), .d (slT enc_api_Ins x.1.2.2.2.2.2.1), .own 134, .own 164, .d (.int .i64 x.1.2.2.2.2.2.2.1), .d (.int .i64 x.1.2.2.2.2.2.2.2.1)]), (134, .row 3 1 (x.1.2.2.2.2.2.2.2.2.1.map enc_i64)), (164, .row 4 1 (x.1.2.2.2.2.2.2.2.2.2.map enc_bool))]) (fun x => x.1.1) ⟨(fuel, (x11, x10.2.p.Decls, x10.2.p.Waits, x10.2.p.Funcs, x10.2.code, x10.2.at_, x10.2.err, x10.2.depth, x10.2.next)), H⟩ (Less.mk' ⟨rfl, rfl, tv⟩ ⟨rfl, rfl, rfl, tv⟩) fun x => ?_)))))
 obtain ⟨⟨k13, s12⟩, H⟩ := x
 rcases k13 with _ | k13
 ·exact of_none H
 rw [depth_Of_l13] at H
 refine Ws (Ws (Wg (Wr 2 tk sg0 rfl rfl tv (Wn (Qn (Wc rfl (fun h14 => ?_) (fun h14 => ?_)))))))
 ·replace H := of_t H h14
  refine Wk (Qn (Ws (Wb (Ws (Wg (Wr 5 tk sg0 rfl rfl tv ?_))))))
  obtain ⟨g15, H⟩ := of_need H
  refine WL.yv (LJ.Y.idxRel enc_bool s12.2.2.2.2.2.2.2.2 s12.1 tk rfl rfl rfl rfl rfl (nIn_ok g15)) rfl rfl rfl (WL.storeRel enc_bool s12.2.2.2.2.2.2.2.2 s12.1 0 false (.bool false) rfl rfl rfl rfl (fun _ => rfl) rfl (by kernel_rfl) rfl rfl (by first | exact nIn_ok g15 | (have := nIn_ok g15; simpa only [List.length_set, List.length_map] using this)) rfl rfl rfl rfl ?_)
  refine Wn (Qn (Wg (Wr 2 tk sg0 rfl rfl tv ?_)))
  obtain ⟨x16, hx16, H⟩ := of_bind H
  refine Wf [134, 164] (depth_walk_look_s 127 134 164 rfl _ _ hx16) depth_walk_look_f rfl rfl ⟨rfl, rfl, rfl, tv⟩ rfl rfl rfl (Wn (Qb (Qn ?_)))
  refine Wg (Wr 1 tk sg0 rfl rfl tv ?_)
  obtain ⟨x17, hx17, H⟩ := of_bind H
  exact Wf [134, 164] (depth_walk_least_s 127 134 164 rfl _ hx17) depth_walk_least_f rfl rfl ⟨rfl, rfl, rfl, tv⟩ rfl rfl rfl (Wr 1 tk sg0 rfl rfl tv (Wn (Qn (⟨⟨(k13, (x17, x16.p.Decls, x16.p.Waits, x16.p.Funcs, x16.code, x16.at_, x16.err, x16.depth, x16.next)), H⟩, Nat.lt_succ_self _, Less.mk' ⟨rfl, rfl, tv⟩ ⟨rfl, rfl, rfl, tv⟩⟩))))
 replace H := of_f H h14
 refine WC.exit (Qx (Qx (Qh (Qn ?_))))
 refine Ws (Ws (Wg (Wr 5 tk sg0 rfl rfl tv (Wn (Qn (Wc rfl (fun h18 => ?_) (fun h18 => ?_)))))))
 ·replace H := of_t H h18
  refine Ws (Hp (.one 0 true (.one 1 true (.one 2 true (.one 3 true (.one 4 true (.one 5 true (.one 6 true (.one 7 true (.one 8 true (.one 9 true (.one 10 true .done))))))))))) [127] [127] rfl (by kernel_rfl) rfl (by kernel_rfl) rfl rfl (fun _ h => h) rfl rfl rfl (fun _ _ _ h => h) fun FK NK wK K => (Hr 11 tk rfl rfl rfl rfl tv (WH.nil rfl (Qn (WC.nilT 4 enc_i64 rfl (Wt (QT.r ?_)))))))
  cases H
  exact Ea rfl rfl rfl tv
 replace H := of_f H h18
 refine Wk (Qn (Ws (Wg (Wr 7 tk sg0 rfl rfl tv (Wn (Qn (WC.freezeT 134 enc_i64 s12.2.2.2.2.2.2.2.1 rfl rfl rfl rfl (Wt ?_))))))))
 cases H
 exact Ea rfl rfl rfl tv
theorem depth_Of_f : hasFunc Tryd.prog 38 Tryd.f38 := ⟨Tryd.func38, rfl, by kernel_rfl⟩

theorem verify_function_0 (a0 : T_api_Program) (a1 : Int) {r : Int × Int} (H : verify_function a0 a1 = some r) : LJ.Spec Tryd.prog 24 [.d (.agg [slT enc_api_Decl a0.Decls, slT enc_sl_sl_api_Need a0.Waits, slT enc_api_Func a0.Funcs]), .d (.int .i64 a1)] [] (.tup [.d (.int .i64 r.1), .d (.int .i64 r.2)]) [] := by
 refine LJ.Spec.code Tryd.func24 rfl 67 rfl rfl [] rfl fun w0 F0 S0 B0 => ?_
 unfold verify_function at H
 refine Ws (Wg (We 102 tk ek eg0 rfl rfl rfl tv (Wr 2 tk sg0 rfl rfl tv (Wn (Qn (Ws (Wg ?_)))))))
 obtain ⟨g1, H⟩ := of_need H
 refine Wr 5 tk sg0 rfl rfl ⟨⟨(nIn_ok g1).1, (nIn_ok g1).2, rfl⟩, tv⟩ (Wa 106 tk rfl rfl rfl (We 0 tk ek eg0 rfl rfl rfl tv (Wn (Qn (Ws (Ws (Wg (Wr 4 tk sg0 rfl rfl tv (Wn (Qn (Wb (Wl (ι := {x : Nat × Int // verify_function_l3 a0 a1 x.1 x.2 = some r}) (fun x => [(1, .d (.int .i64 a1)), (2, .ptr 102 0), (6, .ptr 106 0), (22, .d (slT enc_api_Ins ((a0.Funcs.getD a1.toNat default).Code))), (23, .d (.int .i64 (((a0.Funcs.getD a1.toNat default).Code).length : Int))), (24, .d (.int .i64 x.1.2))]) (fun x => [(102, .box 26 [.d (slT enc_api_Decl a0.Decls), .d (slT enc_sl_sl_api_Need a0.Waits), .d (slT enc_api_Func a0.Funcs)]), (106, .box 44 [.d (.int .i64 ((a0.Funcs.getD a1.toNat default).Args)), .d (.int .i64 ((a0.Funcs.getD a1.toNat default).Locals)), .d (slT enc_api_Ins ((a0.Funcs.getD a1.toNat default).Code))])]) (fun x => x.1.1) ⟨(fuel, 0), H⟩ (Less.mk' ⟨rfl, rfl, rfl, rfl, rfl, rfl, tv⟩ ⟨rfl, rfl, tv⟩) fun x => ?_))))))))))))
 obtain ⟨⟨k3, s2⟩, H⟩ := x
 rcases k3 with _ | k3
 ·exact of_none H
 rw [verify_function_l3] at H
 refine Ws (Wg (Wr 1 tk sg0 rfl rfl tv (Wn (Qn (Ws (Wc rfl (fun h4 => ?_) (fun h4 => ?_)))))))
 ·replace H := of_t H h4
  refine Wk (Qn ?_)
  obtain ⟨K5, hK5, H⟩ := of_withK H
  refine WC.cut (fun E m => ∃ s6 : Unit, K5 s6 = some r ∧ LessW E m [(1, .d (.int .i64 a1)), (2, .ptr 102 0), (6, .ptr 106 0), (22, .d (slT enc_api_Ins ((a0.Funcs.getD a1.toNat default).Code))), (23, .d (.int .i64 (((a0.Funcs.getD a1.toNat default).Code).length : Int))), (24, .d (.int .i64 s2))] [(102, .box 26 [.d (slT enc_api_Decl a0.Decls), .d (slT enc_sl_sl_api_Need a0.Waits), .d (slT enc_api_Func a0.Funcs)]), (106, .box 44 [.d (.int .i64 ((a0.Funcs.getD a1.toNat default).Args)), .d (.int .i64 ((a0.Funcs.getD a1.toNat default).Locals)), .d (slT enc_api_Ins ((a0.Funcs.getD a1.toNat default).Code))])]) ?_ ?_
  ·refine Wb (Ws (Wg ?_))
   obtain ⟨g7, H⟩ := of_need H
   refine Wr 3 tk sg0 rfl rfl ⟨⟨(nIn_ok g7).1, (nIn_ok g7).2, rfl⟩, tv⟩ (Wa 108 tk rfl rfl rfl (Wr 1 tk sg0 rfl rfl tv (We 0 tk ek eg0 rfl rfl rfl tv (Wn (Qn (Ws (Wg (Wr 4 tk sg0 rfl rfl tv (WL.yv (LJ.Y.buildArr 2 [.int .i64 0, .int .i64 0] [.int .i64 ((((a0.Funcs.getD a1.toNat default).Code).getD s2.toNat default).A), .int .i64 ((((a0.Funcs.getD a1.toNat default).Code).getD s2.toNat default).B)] (by kernel_rfl) (by kernel_rfl) rfl rfl rfl) rfl rfl rfl (WL.allocZ 109 [.int .i64 0, .int .i64 0] rfl (by kernel_rfl) rfl rfl rfl rfl (We 0 tk ek eg0 rfl rfl rfl tv (Wn (Qn (Ws (Wg (Wr 2 tk sg0 rfl rfl tv ?_))))))))))))))))
   obtain ⟨x8, hx8, H⟩ := of_bind H
   refine Wf [] (op_Form_0 _ hx8) op_Form_f rfl rfl tv rfl rfl rfl (WL.wo (WO.bytesD enc_u8 x8 rfl rfl rfl (by kernel_rfl) rfl rfl) rfl (Wr 2 tk sg0 rfl rfl tv (Wn (Qn (Wb (Wl (ι := {x : Nat × Int // verify_function_l10 a0 a1 s2 K5 x8 x.1 x.2 = some r}) (fun x => [(1, .d (.int .i64 a1)), (2, .ptr 102 0), (6, .ptr 106 0), (7, .d (.int .i64 s2)), (8, .ptr 108 0), (9, .ptr 109 0), (22, .d (slT enc_api_Ins ((a0.Funcs.getD a1.toNat default).Code))), (23, .d (.int .i64 (((a0.Funcs.getD a1.toNat default).Code).length : Int))), (24, .d (.int .i64 s2)), (37, .d (slT enc_u8 (bytesI x8))), (38, .d (.int .i64 ((bytesI x8).length : Int))), (39, .d (.int .i64 x.1.2))]) (fun x => [(102, .box 26 [.d (slT enc_api_Decl a0.Decls), .d (slT enc_sl_sl_api_Need a0.Waits), .d (slT enc_api_Func a0.Funcs)]), (106, .box 44 [.d (.int .i64 ((a0.Funcs.getD a1.toNat default).Args)), .d (.int .i64 ((a0.Funcs.getD a1.toNat default).Locals)), .d (slT enc_api_Ins ((a0.Funcs.getD a1.toNat default).Code))]), (108, .box 46 [.d (.int .i64 ((((a0.Funcs.getD a1.toNat default).Code).getD s2.toNat default).Op)), .d (.int .i64 ((((a0.Funcs.getD a1.toNat default).Code).getD s2.toNat default).A)), .d (.int .i64 ((((a0.Funcs.getD a1.toNat default).Code).getD s2.toNat default).B))]), (109, .box 76 [.d (.int .i64 ((((a0.Funcs.getD a1.toNat default).Code).getD s2.toNat default).A)), .d (.int .i64 ((((a0.Funcs.getD a1.toNat default).Code).getD s2.toNat default).B))])]) (fun x => x.1.1) ⟨(fuel, 0), H⟩ (Less.mk' ⟨rfl, rfl, rfl, rfl, rfl, rfl, rfl, rfl, rfl, rfl, rfl, rfl, tv⟩ ⟨rfl, rfl, rfl, rfl, tv⟩) fun x => ?_))))))
   obtain ⟨⟨k10, s9⟩, H⟩ := x
   rcases k10 with _ | k10
   ·exact of_none H
   rw [verify_function_l10] at H
   refine Ws (Wg (Wr 1 tk sg0 rfl rfl tv (Wn (Qn (Ws (Wc rfl (fun h11 => ?_) (fun h11 => ?_)))))))
   ·replace H := of_t H h11
    refine Wk (Qn (Ws (Wb (Ws (Wg ?_)))))
    obtain ⟨g12, H⟩ := of_need H
    refine Wr 5 tk sg0 rfl rfl ⟨⟨(nIn_ok g12).1, (nIn_ok g12).2, rfl⟩, tv⟩ (Wn (Qn (Ws (Hp (.one 0 true (.one 1 true (.one 2 true (.one 3 true (.one 4 true (.one 5 true (.one 6 true (.one 7 false (.one 8 true .done))))))))) [102, 106, 108, 109] [102, 106, 108, 109] rfl (by kernel_rfl) rfl (by kernel_rfl) rfl rfl (fun _ h => h) rfl rfl rfl (fun _ _ _ h => h) fun FK NK wK K => (Hr 5 tk rfl rfl rfl rfl tv ?_)))))
    obtain ⟨g13, H⟩ := of_need H
    refine WH.yv rfl (LJ.Y.idxPtrA 2 s9 (by kernel_rfl) rfl rfl rfl (nIn_ok g13)) rfl rfl rfl (WH.yv rfl (LJ.Y.loadPtrA 2 0 (fun k => .int .i64 (([(((a0.Funcs.getD a1.toNat default).Code).getD s2.toNat default).A, (((a0.Funcs.getD a1.toNat default).Code).getD s2.toNat default).B] : List Int).getD k default)) s9 rfl rfl rfl (by kernel_rfl) rfl (nIn_ok g13)) rfl rfl rfl ?_)
    obtain ⟨x14, hx14, H⟩ := of_bind H
    refine WH.call [] rfl (verify_operand_0 _ _ _ _ _ hx14) verify_operand_f rfl rfl tv rfl rfl rfl rfl rfl (Hr 1 tk rfl rfl rfl rfl tv (WH.nil rfl (Qn (Ws (Wg (Wr 2 tk sg0 rfl rfl tv (Wn (Qn (Wc rfl (fun h15 => ?_) (fun h15 => ?_))))))))))
    ·replace H := of_t H h15
     refine Ws (Wg (Wr 4 tk sg0 rfl rfl tv (Wn (Qn (Wt (QB.r (QT.r (QT.r (QB.r (QB.r (QT.r (QT.r (QB.r (QT.r ?_))))))))))))))
     cases H
     exact Ea rfl rfl rfl tv
    replace H := of_f H h15
    refine Wk (Qb (Qn ?_))
    exact Wg (Wr 2 tk sg0 rfl rfl tv (Wn (Qn (⟨⟨(k10, IntKind.i64.wrap (s9 + 1)), H⟩, Nat.lt_succ_self _, Less.mk' ⟨rfl, rfl, rfl, rfl, rfl, rfl, rfl, rfl, rfl, rfl, rfl, rfl, tv⟩ ⟨rfl, rfl, rfl, rfl, tv⟩⟩))))
   replace H := of_f H h11
   refine WC.exit (Qx (Qx (Qh (Qb (Qn ?_)))))
   exact ⟨Unit.unit, H, LessW.mk' ⟨Ao rfl, Ao rfl, Ao rfl, Ao rfl, Ao rfl, Ao rfl, tv⟩ ⟨rfl, rfl, tv⟩⟩
  ·rintro E m ⟨s6, H, hl⟩
   refine WC.lessW hl ?_
   replace H := (hK5 _).symm.trans H
   try dsimp only at H
   exact Wg (Wr 2 tk sg0 rfl rfl tv (Wn (Qn (⟨⟨(k3, IntKind.i64.wrap (s2 + 1)), H⟩, Nat.lt_succ_self _, Less.mk' ⟨rfl, rfl, rfl, rfl, rfl, rfl, tv⟩ ⟨rfl, rfl, tv⟩⟩))))
 replace H := of_f H h4
 refine WC.exit (Qx (Qx (Qh (Qn ?_))))
 refine Ws (Wg (Wr 2 tk sg0 rfl rfl tv ?_))
 obtain ⟨x16, hx16, H⟩ := of_bind H
 refine Wf [] (depth_Of_0 _ _ hx16) depth_Of_f rfl rfl tv rfl rfl rfl (Wr 7 tk sg0 rfl rfl tv (Wn (Qn (Ws (Wg (Wr 4 tk sg0 rfl rfl tv (Wn (Qn (Wt ?_)))))))))
 cases H
 exact Ea rfl rfl rfl tv
theorem verify_function_f : hasFunc Tryd.prog 24 Tryd.f24 := ⟨Tryd.func24, rfl, by kernel_rfl⟩

theorem verify_Program_0 (a0 : T_api_Program) {r : T_verify_Where × Int} (H : verify_Program a0 = some r) : LJ.Spec Tryd.prog 12 [.d (.agg [slT enc_api_Decl a0.Decls, slT enc_sl_sl_api_Need a0.Waits, slT enc_api_Func a0.Funcs])] [] (.tup [.d (.agg [.int .i64 r.1.Fn, .int .i64 r.1.Pc]), .d (.int .i64 r.2)]) [] := by
 refine LJ.Spec.code Tryd.func12 rfl 41 rfl rfl [] rfl fun w0 F0 S0 B0 => ?_
 unfold verify_Program at H
 refine Ws (Wg (We 101 tk ek eg0 rfl rfl rfl tv (Wa 102 tk rfl rfl rfl (Wr 1 tk sg0 rfl rfl tv (Wn (Qn (Ws (Ws (Wg (Wr 1 tk sg0 rfl rfl tv ?_))))))))))
 obtain ⟨x1, hx1, H⟩ := of_bind H
 refine Wf [] (prog_Check_0 _ hx1) prog_Check_f rfl rfl tv rfl rfl rfl (Wr 1 tk sg0 rfl rfl tv (Wn (Qn (Ws (Wg (Wr 2 tk sg0 rfl rfl tv (Wn (Qn (Wc rfl (fun h2 => ?_) (fun h2 => ?_))))))))))
 ·replace H := of_t H h2
  refine Ws (Wg (Wr 2 tk sg0 rfl rfl tv (We 0 tk ek eg0 rfl rfl rfl tv (Wr 1 tk sg0 rfl rfl tv (Wn (Qn (Wt (QT.r ?_))))))))
  cases H
  exact Ends.autoC tk rfl rfl rfl tv
 replace H := of_f H h2
 refine Wk (Qn (Ws (Ws (Wg ?_))))
 obtain ⟨g3, H⟩ := of_need H
 refine Wr 6 tk sg0 rfl rfl ⟨⟨(nIn_ok g3).1, (nIn_ok g3).2, rfl⟩, tv⟩ (Wn (Qn (Wc rfl (fun h4 => ?_) (fun h4 => ?_))))
 ·replace H := of_t H h4
  refine Ws (Wg (Wr 1 tk sg0 rfl rfl tv (We 0 tk ek eg0 rfl rfl rfl tv (Wr 1 tk sg0 rfl rfl tv (Wn (Qn (Wt (QT.r ?_))))))))
  cases H
  exact Ends.autoC tk rfl rfl rfl tv
 replace H := of_f H h4
 refine Wk (Qn (Ws (Ws (Wg (Wr 4 tk sg0 rfl rfl tv (Wn (Qn (Wb (Wl (ι := {x : Nat × Int // verify_Program_l6 a0 x.1 x.2 = some r}) (fun x => [(1, .ptr 101 0), (2, .ptr 102 0), (23, .d (.int .i64 (a0.Funcs.length : Int))), (24, .d (.int .i64 x.1.2))]) (fun x => [(101, .box 26 [.d (slT enc_api_Decl a0.Decls), .d (slT enc_sl_sl_api_Need a0.Waits), .d (slT enc_api_Func a0.Funcs)]), (102, .box 37 [.d (.int .i64 0), .d (.int .i64 0)])]) (fun x => x.1.1) ⟨(fuel, 0), H⟩ (Less.mk' ⟨rfl, rfl, rfl, rfl, tv⟩ ⟨rfl, rfl, tv⟩) fun x => ?_)))))))))
 obtain ⟨⟨k6, s5⟩, H⟩ := x
 rcases k6 with _ | k6
 ·exact of_none H
 rw [verify_Program_l6] at H
 refine Ws (Wg (Wr 1 tk sg0 rfl rfl tv (Wn (Qn (Ws (Wc rfl (fun h7 => ?_) (fun h7 => ?_)))))))
 ·replace H := of_t H h7
  refine Wk (Qn (Ws (Wb (Ws (Wg (Wr 2 tk sg0 rfl rfl tv (Wn (Qn (Ws (Wg (Wr 2 tk sg0 rfl rfl tv ?_)))))))))))
  obtain ⟨x8, hx8, H⟩ := of_bind H
  refine Wf [] (verify_function_0 _ _ hx8) verify_function_f rfl rfl tv rfl rfl rfl (Wr 5 tk sg0 rfl rfl tv (Wn (Qn (Ws (Wg (Wr 2 tk sg0 rfl rfl tv (Wn (Qn (Wc rfl (fun h9 => ?_) (fun h9 => ?_))))))))))
  ·replace H := of_t H h9
   refine Ws (Wg (Wr 4 tk sg0 rfl rfl tv (We 0 tk ek eg0 rfl rfl rfl tv (Wr 1 tk sg0 rfl rfl tv (Wn (Qn (Wt (QB.r (QT.r (QT.r (QB.r (QT.r ?_))))))))))))
   cases H
   exact Ends.autoC tk rfl rfl rfl tv
  replace H := of_f H h9
  refine Wk (Qb (Qn ?_))
  exact Wg (Wr 2 tk sg0 rfl rfl tv (Wn (Qn (⟨⟨(k6, IntKind.i64.wrap (s5 + 1)), H⟩, Nat.lt_succ_self _, Less.mk' ⟨rfl, rfl, rfl, rfl, tv⟩ ⟨rfl, rfl, tv⟩⟩))))
 replace H := of_f H h7
 refine WC.exit (Qx (Qx (Qh (Qn ?_))))
 refine Ws (Wg (Wr 1 tk sg0 rfl rfl tv (We 0 tk ek eg0 rfl rfl rfl tv (Wr 1 tk sg0 rfl rfl tv (Wn (Qn (Wt ?_)))))))
 cases H
 exact Ends.autoC tk rfl rfl rfl tv
theorem verify_Program_f : hasFunc Tryd.prog 12 Tryd.f12 := ⟨Tryd.func12, rfl, by kernel_rfl⟩

theorem bits_Of_0 (a0 : List Int) {r : Int} (H : bits_Of a0 = some r) : LJ.Spec Tryd.prog 18 [.d (slT enc_i64 a0)] [] (.d (.int .u64 r)) [] := by
 refine LJ.Spec.code Tryd.func18 rfl 18 rfl rfl [] rfl fun w0 F0 S0 B0 => ?_
 unfold bits_Of at H
 refine Ws (Wg (Wr 1 tk sg0 rfl rfl tv (Wn (Qn (Ws (Wg (Wr 1 tk sg0 rfl rfl tv (Wn (Qn (Ws (Ws (Wg (Wr 3 tk sg0 rfl rfl tv (Wn (Qn (Wb (Wl (ι := {x : Nat × (Int × Int) // bits_Of_l2 a0 x.1 x.2 = some r}) (fun x => [(3, .d (.int .u64 x.1.2.1)), (6, .d (slT enc_i64 a0)), (7, .d (.int .i64 (a0.length : Int))), (8, .d (.int .i64 x.1.2.2))]) (fun x => []) (fun x => x.1.1) ⟨(fuel, (0, 0)), H⟩ (Less.mk' ⟨rfl, rfl, rfl, rfl, tv⟩ tv) fun x => ?_)))))))))))))))))
 obtain ⟨⟨k2, s1⟩, H⟩ := x
 rcases k2 with _ | k2
 ·exact of_none H
 rw [bits_Of_l2] at H
 refine Ws (Wg (Wr 1 tk sg0 rfl rfl tv (Wn (Qn (Ws (Wc rfl (fun h3 => ?_) (fun h3 => ?_)))))))
 ·replace H := of_t H h3
  refine Wk (Qn (Ws (Wb (Ws (Wg ?_)))))
  obtain ⟨g4, H⟩ := of_need H
  refine Wr 3 tk sg0 rfl rfl ⟨⟨(nIn_ok g4).1, (nIn_ok g4).2, rfl⟩, tv⟩ (Wn (Qn (Wg (Wr 2 tk sg0 rfl rfl tv ?_))))
  obtain ⟨x5, hx5, H⟩ := of_bind H
  refine Wf [] (bits_one_0 _ hx5) bits_one_f rfl rfl tv rfl rfl rfl (Wr 2 tk sg0 rfl rfl tv (Wn (Qb (Qn ?_))))
  exact Wg (Wr 2 tk sg0 rfl rfl tv (Wn (Qn (⟨⟨(k2, (Go.bits .or .u64 s1.1 x5, IntKind.i64.wrap (s1.2 + 1))), H⟩, Nat.lt_succ_self _, Less.mk' ⟨rfl, rfl, rfl, rfl, tv⟩ tv⟩))))
 replace H := of_f H h3
 refine WC.exit (Qx (Qx (Qh (Qn ?_))))
 refine Ws (Wg (Wr 2 tk sg0 rfl rfl tv (Wn (Qn (Wt ?_)))))
 cases H
 exact Ea rfl rfl rfl tv
theorem bits_Of_f : hasFunc Tryd.prog 18 Tryd.f18 := ⟨Tryd.func18, rfl, by kernel_rfl⟩

theorem bits_Set_Has_0 (a0 : Int) (a1 : Int) {r : Bool} (H : bits_Set_Has a0 a1 = some r) : LJ.Spec Tryd.prog 19 [.d (.int .u64 a0), .d (.int .i64 a1)] [] (.d (.bool r)) [] := by
 refine LJ.Spec.code Tryd.func19 rfl 10 rfl rfl [] rfl fun w0 F0 S0 B0 => ?_
 unfold bits_Set_Has at H
 refine Ws (Wg (Wr 1 tk sg0 rfl rfl tv (Wn (Qn (Ws (Wg (Wr 2 tk sg0 rfl rfl tv ?_)))))))
 obtain ⟨x1, hx1, H⟩ := of_bind H
 refine Wf [] (bits_one_0 _ hx1) bits_one_f rfl rfl tv rfl rfl rfl (Wr 3 tk sg0 rfl rfl tv (Wn (Qn (Wt ?_))))
 cases H
 exact Ea rfl rfl rfl tv
theorem bits_Set_Has_f : hasFunc Tryd.prog 19 Tryd.f19 := ⟨Tryd.func19, rfl, by kernel_rfl⟩

theorem verify_Calls_0 (a0 : T_api_Program) (a1 : Int) {r : Int} (H : verify_Calls a0 a1 = some r) : LJ.Spec Tryd.prog 7 [.d (.agg [slT enc_api_Decl a0.Decls, slT enc_sl_sl_api_Need a0.Waits, slT enc_api_Func a0.Funcs]), .d (.int .i64 a1)] [] (.d (.int .u64 r)) [] := by
 refine LJ.Spec.code Tryd.func7 rfl 77 rfl rfl [] rfl fun w0 F0 S0 B0 => ?_
 unfold verify_Calls at H
 refine Ws (Wg (We 102 tk ek eg0 rfl rfl rfl tv (Wr 1 tk sg0 rfl rfl tv (Wn (Qn (Ws (Ws (Wg (Wr 3 tk sg0 rfl rfl tv (Wx 5 2 false tk sg0 rfl rfl (fun _ => tv) (Wr 2 tk sg0 rfl rfl ⟨by first | exact id | exact fun h => by rw [h]; rfl | simp_all, tv⟩ ?_)))))))))))
 obtain ⟨x1, hx1, H⟩ := of_bind H
 refine Wx 3 9 false tk [PSig.at' prog_Check_f ((!((iLt a1 0) || (iLe (a0.Funcs.length : Int) a1))) = true) rfl (fun hb => prog_Check_0 _ (of_t hx1 hb))] rfl rfl (fun hb => ⟨⟨hb, rfl⟩, tv⟩) (Wr 1 tk sg0 rfl rfl ⟨by first | exact id | exact fun h => by rw [h]; rfl | simp_all, tv⟩ (Wn (Qn (Wc rfl (fun h2 => ?_) (fun h2 => ?_)))))
 ·replace H := of_t H h2
  refine Ws (Wg (Wr 1 tk sg0 rfl rfl tv (Wn (Qn (Wt (QT.r ?_))))))
  cases H
  exact Ea rfl rfl rfl tv
 replace H := of_f H h2
 refine Wk (Qn (Ws (Wg (Wr 1 tk sg0 rfl rfl tv (We 125 tk ek eg0 rfl rfl rfl tv (WL.freezeT 125 enc_i64 ([a1] : List Int) rfl rfl rfl rfl ?_))))))
 obtain ⟨x3, hx3, H⟩ := of_bind H
 refine Wf [] (bits_Of_0 _ hx3) bits_Of_f rfl rfl tv rfl rfl rfl (Wr 1 tk sg0 rfl rfl tv (We 128 tk ek eg0 rfl rfl rfl tv (Wr 2 tk sg0 rfl rfl tv (Wn (Qn (Ws (Wb (WC.row 128 (([a1] : List Int).map enc_i64) rfl rfl rfl (WC.toQue 128 rfl rfl rfl rfl (Wl (ι := {x : Nat × (Int × (List Int)) // verify_Calls_l5 a0 x.1 x.2 = some r}) (fun x => [(2, .ptr 102 0), (5, .d (.int .u64 x.1.2.1)), (6, .own 128)]) (fun x => [(102, .box 26 [.d (slT enc_api_Decl a0.Decls), .d (slT enc_sl_sl_api_Need a0.Waits), .d (slT enc_api_Func a0.Funcs)]), (128, .que 3 1 (x.1.2.2.map enc_i64))]) (fun x => x.1.1) ⟨(fuel, (x3, ([a1] : List Int))), H⟩ (Less.mk' ⟨rfl, rfl, rfl, tv⟩ ⟨rfl, rfl, tv⟩) fun x => ?_))))))))))
 obtain ⟨⟨k5, s5_3_1⟩, H⟩ := x
 rcases k5 with _ | k5
 ·exact of_none H
 rw [verify_Calls_l5] at H
 refine Ws (Ws (Wg (Wr 3 tk sg0 rfl rfl tv (Wn (Qn (Wc rfl (fun h6 => ?_) (fun h6 => ?_)))))))
 ·replace H := of_t H h6
  refine Wk (Qn ?_)
  obtain ⟨K7, hK7, H⟩ := of_withK H
  refine WC.cutT (fun s8 : Int × (List Int) => [(2, .ptr 102 0), (5, .d (.int .u64 s8.1)), (6, .own 128)]) (fun s8 => [(102, .box 26 [.d (slT enc_api_Decl a0.Decls), .d (slT enc_sl_sl_api_Need a0.Waits), .d (slT enc_api_Func a0.Funcs)]), (128, .que 3 1 (s8.2.map enc_i64))]) (fun s8 => K7 s8 = some r) ?_ ?_
  ·refine Wb (Ws ?_)
   obtain ⟨g5_3_1, H⟩ := of_need H
   obtain ⟨g5_5_1, H⟩ := of_need H
   refine WC.heldF [(2, .ptr 102 0), (5, .d (.int .u64 s5_3_1.1)), (6, .own 128), (7, .ptr 107 0)] [(102, .box 26 [.d (slT enc_api_Decl a0.Decls), .d (slT enc_sl_sl_api_Need a0.Waits), .d (slT enc_api_Func a0.Funcs)]), (107, .box 44 [.d (.int .i64 ((a0.Funcs.getD (s5_3_1.2.getD (0 : Int).toNat default).toNat default).Args)), .d (.int .i64 ((a0.Funcs.getD (s5_3_1.2.getD (0 : Int).toNat default).toNat default).Locals)), .d (slT enc_api_Ins ((a0.Funcs.getD (s5_3_1.2.getD (0 : Int).toNat default).toNat default).Code))]), (128, .que 3 1 (s5_3_1.2.map enc_i64))] (.one 0 true (.one 1 true (.one 2 true (.fork (.one 3 false (.fork (.one 4 false (.one 5 true (.one 6 true (.one 7 false (.one 8 false .done))))) (.one 7 false (.one 4 false (.one 5 true (.one 6 true (.one 8 false .done))))))) (.one 7 false (.one 3 false (.one 4 false (.one 5 true (.one 6 true (.one 8 false .done)))))))))) [102] [102] rfl (by kernel_rfl) rfl (by kernel_rfl) rfl rfl (fun _ h => h) rfl rfl rfl (fun FK NK wK K => ?_) ?_
   ·refine Hr 2 tk rfl rfl rfl rfl tv (WH.mv rfl rfl rfl rfl rfl rfl rfl rfl rfl (WH.fork ?_ ?_))
    ·refine WH.yvs rfl (LJ.Y.idxQ enc_i64 s5_3_1.2 (0 : Int) tk rfl rfl rfl rfl rfl (nIn_ok g5_3_1)) rfl rfl rfl rfl rfl (WH.fork ?_ ?_)
     ·exact WH.yvs rfl (LJ.Y.loadQ enc_i64 s5_3_1.2 (0 : Int) rfl rfl (fun _ => rfl) rfl (by kernel_rfl) rfl (nIn_ok g5_3_1)) rfl rfl rfl rfl rfl (Hr 2 tk rfl rfl rfl rfl ⟨⟨(nIn_ok g5_5_1).1, (nIn_ok g5_5_1).2, rfl⟩, tv⟩ (WH.alloc 107 tk rfl rfl rfl rfl rfl rfl (He 0 tk ek rfl rfl rfl rfl tv rfl rfl (Hn rfl (LessW.mk' ⟨Ao rfl, Ao rfl, Ao rfl, Ao rfl, tv⟩ ⟨rfl, rfl, rfl, tv⟩)))))
     ·exact WH.alloc 107 tk rfl rfl rfl rfl rfl rfl (WH.yvs rfl (LJ.Y.loadQ enc_i64 s5_3_1.2 (0 : Int) rfl rfl (fun _ => rfl) rfl (by kernel_rfl) rfl (nIn_ok g5_3_1)) rfl rfl rfl rfl rfl (Hr 2 tk rfl rfl rfl rfl ⟨⟨(nIn_ok g5_5_1).1, (nIn_ok g5_5_1).2, rfl⟩, tv⟩ (He 0 tk ek rfl rfl rfl rfl tv rfl rfl (Hn rfl (LessW.mk' ⟨Ao rfl, Ao rfl, Ao rfl, Ao rfl, tv⟩ ⟨rfl, rfl, rfl, tv⟩)))))
    ·exact WH.alloc 107 tk rfl rfl rfl rfl rfl rfl (WH.yvs rfl (LJ.Y.idxQ enc_i64 s5_3_1.2 (0 : Int) tk rfl rfl rfl rfl rfl (nIn_ok g5_3_1)) rfl rfl rfl rfl rfl (WH.yvs rfl (LJ.Y.loadQ enc_i64 s5_3_1.2 (0 : Int) rfl rfl (fun _ => rfl) rfl (by kernel_rfl) rfl (nIn_ok g5_3_1)) rfl rfl rfl rfl rfl (Hr 2 tk rfl rfl rfl rfl ⟨⟨(nIn_ok g5_5_1).1, (nIn_ok g5_5_1).2, rfl⟩, tv⟩ (He 0 tk ek rfl rfl rfl rfl tv rfl rfl (Hn rfl (LessW.mk' ⟨Ao rfl, Ao rfl, Ao rfl, Ao rfl, tv⟩ ⟨rfl, rfl, rfl, tv⟩))))))
   ·refine Qn (Ws (Wg (Wr 1 tk sg0 rfl rfl tv ?_)))
    obtain ⟨g9, H⟩ := of_need H
    refine WL.tailQ enc_i64 s5_3_1.2 (1 : Int) tk rfl rfl rfl rfl rfl (nSl_ok g9) rfl rfl rfl rfl (Wr 1 tk sg0 rfl rfl tv (Wn (Qn (Ws (Wg (Wr 4 tk sg0 rfl rfl tv (Wn (Qn ?_))))))))
    obtain ⟨K10, hK10, H⟩ := of_withK H
    refine WC.cutT (fun s11 : Int × (List Int) => [(2, .ptr 102 0), (5, .d (.int .u64 s11.1)), (6, .own 128)]) (fun s11 => [(102, .box 26 [.d (slT enc_api_Decl a0.Decls), .d (slT enc_sl_sl_api_Need a0.Waits), .d (slT enc_api_Func a0.Funcs)]), (128, .que 3 1 (s11.2.map enc_i64))]) (fun s11 => K10 s11 = some r) ?_ ?_
    ·refine Wb (Wl (ι := {x : Nat × (Int × Int × (List Int)) // verify_Calls_l13 a0 s5_3_1 K10 x.1 x.2 = some r}) (fun x => [(2, .ptr 102 0), (5, .d (.int .u64 x.1.2.1)), (6, .own 128), (42, .d (slT enc_api_Ins ((a0.Funcs.getD (s5_3_1.2.getD (0 : Int).toNat default).toNat default).Code))), (43, .d (.int .i64 (((a0.Funcs.getD (s5_3_1.2.getD (0 : Int).toNat default).toNat default).Code).length : Int))), (44, .d (.int .i64 x.1.2.2.1))]) (fun x => [(102, .box 26 [.d (slT enc_api_Decl a0.Decls), .d (slT enc_sl_sl_api_Need a0.Waits), .d (slT enc_api_Func a0.Funcs)]), (128, .que 3 1 (x.1.2.2.2.map enc_i64))]) (fun x => x.1.1) ⟨(fuel, (s5_3_1.1, 0, s5_3_1.2.drop (1 : Int).toNat)), H⟩ (Less.mk' ⟨rfl, rfl, rfl, rfl, rfl, rfl, tv⟩ ⟨rfl, rfl, tv⟩) fun x => ?_)
     obtain ⟨⟨k13, s12⟩, H⟩ := x
     rcases k13 with _ | k13
     ·exact of_none H
     rw [verify_Calls_l13] at H
     refine Ws (Wg (Wr 1 tk sg0 rfl rfl tv (Wn (Qn (Ws (Wc rfl (fun h14 => ?_) (fun h14 => ?_)))))))
     ·replace H := of_t H h14
      refine Wk (Qn (Ws (Wb (Ws (Wg ?_)))))
      obtain ⟨g15, H⟩ := of_need H
      refine Wr 2 tk sg0 rfl rfl ⟨⟨(nIn_ok g15).1, (nIn_ok g15).2, rfl⟩, tv⟩ (Wa 109 tk rfl rfl rfl (We 0 tk ek eg0 rfl rfl rfl tv (Wn (Qn (Ws (Wg (Wr 4 tk sg0 rfl rfl tv (Wx 6 3 true tk sg0 rfl rfl (fun _ => tv) (Wr 2 tk sg0 rfl rfl ⟨by first | exact id | exact fun h => by rw [h]; rfl | simp_all, tv⟩ ?_)))))))))
      obtain ⟨x16, hx16, H⟩ := of_bind H
      refine Wx 5 11 true tk [PSig.at' bits_Set_Has_f (((iEq ((((a0.Funcs.getD (s5_3_1.2.getD (0 : Int).toNat default).toNat default).Code).getD s12.2.1.toNat default).Op) 20) && (iLt ((((a0.Funcs.getD (s5_3_1.2.getD (0 : Int).toNat default).toNat default).Code).getD s12.2.1.toNat default).A) (a0.Funcs.length : Int))) = true) rfl (fun hb => bits_Set_Has_0 _ _ (of_t hx16 hb))] rfl rfl (fun hb => ⟨⟨hb, rfl⟩, tv⟩) (Wr 1 tk sg0 rfl rfl ⟨by first | exact id | exact fun h => by rw [h]; rfl | simp_all, tv⟩ (Wn (Qn (Wc rfl (fun h17 => ?_) (fun h17 => ?_)))))
      ·replace H := of_t H h17
       refine Ws (Wg (Wr 3 tk sg0 rfl rfl tv ?_))
       obtain ⟨x18, hx18, H⟩ := of_bind H
       refine Wf [] (bits_Set_With_0 _ _ hx18) bits_Set_With_f rfl rfl tv rfl rfl rfl (Wr 1 tk sg0 rfl rfl tv (Wn (Qn (Wg (Wr 3 tk sg0 rfl rfl tv (We 173 tk ek eg0 rfl rfl rfl tv (WL.freezeT 173 enc_i64 ([(((a0.Funcs.getD (s5_3_1.2.getD (0 : Int).toNat default).toNat default).Code).getD s12.2.1.toNat default).A] : List Int) rfl rfl rfl rfl ?_)))))))
       obtain ⟨g19, H⟩ := of_need H
       refine WL.appQ enc_i64 s12.2.2 ([(((a0.Funcs.getD (s5_3_1.2.getD (0 : Int).toNat default).toNat default).Code).getD s12.2.1.toNat default).A] : List Int) tk ek rfl rfl (fun _ => rfl) (fun _ => rfl) rfl rfl rfl rfl (nCap_ok g19) rfl rfl rfl rfl rfl rfl (Wr 1 tk sg0 rfl rfl tv (Wn (Qb (Qn ?_))))
       exact Wg (Wr 2 tk sg0 rfl rfl tv (Wn (Qn (⟨⟨(k13, (x18, IntKind.i64.wrap (s12.2.1 + 1), s12.2.2 ++ ([(((a0.Funcs.getD (s5_3_1.2.getD (0 : Int).toNat default).toNat default).Code).getD s12.2.1.toNat default).A] : List Int))), H⟩, Nat.lt_succ_self _, Less.mk' ⟨rfl, rfl, rfl, rfl, rfl, rfl, tv⟩ ⟨rfl, rfl, tv⟩⟩))))
      replace H := of_f H h17
      refine Wk (Qb (Qn ?_))
      exact Wg (Wr 2 tk sg0 rfl rfl tv (Wn (Qn (⟨⟨(k13, (s12.1, IntKind.i64.wrap (s12.2.1 + 1), s12.2.2)), H⟩, Nat.lt_succ_self _, Less.mk' ⟨rfl, rfl, rfl, rfl, rfl, rfl, tv⟩ ⟨rfl, rfl, tv⟩⟩))))
     replace H := of_f H h14
     refine WC.exit (Qx (Qx (Qh (Qn ?_))))
     exact ⟨(s12.1, s12.2.2), H, LessW.mk' ⟨Ao rfl, Ao rfl, Ao rfl, tv⟩ ⟨rfl, rfl, tv⟩⟩
    ·intro s11 H
     replace H := (hK10 _).symm.trans H
     try dsimp only at H
     refine Qb (Qn ?_)
     exact ⟨(s11.1, s11.2), H, LessW.mk' ⟨Ao rfl, Ao rfl, Ao rfl, tv⟩ ⟨rfl, rfl, tv⟩⟩
  ·intro s8 H
   replace H := (hK7 _).symm.trans H
   try dsimp only at H
   exact Qn (⟨⟨(k5, (s8.1, s8.2)), H⟩, Nat.lt_succ_self _, Less.mk' ⟨rfl, rfl, rfl, tv⟩ ⟨rfl, rfl, tv⟩⟩)
 replace H := of_f H h6
 refine WC.exit (Qx (Qx (Qh (Qn ?_))))
 refine Ws (Wg (Wr 2 tk sg0 rfl rfl tv (Wn (Qn (Wt ?_)))))
 cases H
 exact Ea rfl rfl rfl tv
theorem verify_Calls_f : hasFunc Tryd.prog 7 Tryd.f7 := ⟨Tryd.func7, rfl, by kernel_rfl⟩

theorem bits_TrailingZeros64_0 (a0 : Int) {r : Int} (H : bits_TrailingZeros64 a0 = some r) : LJ.Spec Tryd.prog 51 [.d (.int .u64 a0)] [] (.d (.int .i64 r)) [] := by
 refine LJ.Spec.code Tryd.func51 rfl 14 rfl rfl [] rfl fun w0 F0 S0 B0 => ?_
 unfold bits_TrailingZeros64 at H
 refine Ws (Wg (Wr 1 tk sg0 rfl rfl tv (Wn (Qn (Ws (Ws (Wg (Wr 2 tk sg0 rfl rfl tv (Wn (Qn (Wc rfl (fun h1 => ?_) (fun h1 => ?_))))))))))))
 ·replace H := of_t H h1
  refine Ws (Wg (Wr 1 tk sg0 rfl rfl tv (Wn (Qn (Wt (QT.r ?_))))))
  cases H
  exact Ea rfl rfl rfl tv
 replace H := of_f H h1
 refine Wk (Qn (Ws (Wg (Wr 6 tk sg0 rfl rfl tv ?_))))
 obtain ⟨g2, H⟩ := of_need H
 refine WL.yv (LJ.Y.idxElpA 64 (fun k => .int .u8 (G_math_bits_deBruijn64tab.getD k default)) ((IntKind.u64.wrap ((Go.bits .and .u64 a0 (IntKind.u64.wrap (0 - a0))) * 285870213051353865)) / 2 ^ min (58 : Int).toNat IntKind.u64.bits) (by kernel_rfl) rfl rfl rfl gl_0_take (nIn_ok g2)) rfl rfl rfl (Wr 3 tk sg0 rfl rfl tv (Wn (Qn (Wt ?_))))
 cases H
 exact Ea rfl rfl rfl tv
theorem bits_TrailingZeros64_f : hasFunc Tryd.prog 51 Tryd.f51 := ⟨Tryd.func51, rfl, by kernel_rfl⟩

theorem bits_Set_First_0 (a0 : Int) {r : Int} (H : bits_Set_First a0 = some r) : LJ.Spec Tryd.prog 34 [.d (.int .u64 a0)] [] (.d (.int .i64 r)) [] := by
 refine LJ.Spec.code Tryd.func34 rfl 7 rfl rfl [] rfl fun w0 F0 S0 B0 => ?_
 unfold bits_Set_First at H
 refine Ws (Wg (Wr 1 tk sg0 rfl rfl tv (Wn (Qn (Ws (Ws (Wg (Wr 2 tk sg0 rfl rfl tv (Wn (Qn (Wc rfl (fun h1 => ?_) (fun h1 => ?_))))))))))))
 ·replace H := of_t H h1
  refine Ws (Wg (Wr 1 tk sg0 rfl rfl tv (Wn (Qn (Wt (QT.r ?_))))))
  cases H
  exact Ea rfl rfl rfl tv
 replace H := of_f H h1
 refine Wk (Qn (Ws (Wg (Wr 1 tk sg0 rfl rfl tv ?_))))
 obtain ⟨x2, hx2, H⟩ := of_bind H
 refine Wf [] (bits_TrailingZeros64_0 _ hx2) bits_TrailingZeros64_f rfl rfl tv rfl rfl rfl (Wr 1 tk sg0 rfl rfl tv (Wn (Qn (Wt ?_))))
 cases H
 exact Ea rfl rfl rfl tv
theorem bits_Set_First_f : hasFunc Tryd.prog 34 Tryd.f34 := ⟨Tryd.func34, rfl, by kernel_rfl⟩

theorem bits_Set_List_0 (a0 : Int) {r : List Int} (H : bits_Set_List a0 = some r) : LJ.Spec Tryd.prog 22 [.d (.int .u64 a0)] [] (.d (slT enc_i64 r)) [] := by
 refine LJ.Spec.code Tryd.func22 rfl 19 rfl rfl [] rfl fun w0 F0 S0 B0 => ?_
 unfold bits_Set_List at H
 refine Ws (Wg (Wr 1 tk sg0 rfl rfl tv (Wn (Qn (Ws (Wg (Wr 1 tk sg0 rfl rfl tv ?_)))))))
 obtain ⟨x1, hx1, H⟩ := of_bind H
 refine Wf [] (bits_Set_Count_0 _ hx1) bits_Set_Count_f rfl rfl tv rfl rfl rfl ?_
 obtain ⟨g2, H⟩ := of_need H
 refine WL.makeC (r := 106) enc_i64 (0 : Int) x1 tk ek rfl rfl rfl rfl rfl rfl rfl (nMk_ok g2) rfl rfl rfl rfl (Wr 1 tk sg0 rfl rfl tv (Wn (Qn (Ws (Wb (Wl (ι := {x : Nat × (Int × (List Int)) // bits_Set_List_l4 x.1 x.2 = some r}) (fun x => [(0, .d (.int .u64 x.1.2.1)), (3, .own 106)]) (fun x => [(106, .row 3 1 (x.1.2.2.map enc_i64))]) (fun x => x.1.1) ⟨(fuel, (a0, ([] : List Int))), H⟩ (Less.mk' ⟨rfl, rfl, tv⟩ ⟨rfl, tv⟩) fun x => ?_))))))
 obtain ⟨⟨k4, s3⟩, H⟩ := x
 rcases k4 with _ | k4
 ·exact of_none H
 rw [bits_Set_List_l4] at H
 refine Ws (Ws (Wg (Wr 2 tk sg0 rfl rfl tv (Wn (Qn (Wc rfl (fun h5 => ?_) (fun h5 => ?_)))))))
 ·replace H := of_t H h5
  refine Wk (Qn (Ws (Wb (Wg (Wr 2 tk sg0 rfl rfl tv ?_)))))
  obtain ⟨x6, hx6, H⟩ := of_bind H
  refine Wf [] (bits_Set_First_0 _ hx6) bits_Set_First_f rfl rfl tv rfl rfl rfl (We 116 tk ek eg0 rfl rfl rfl tv (WL.freezeT 116 enc_i64 ([x6] : List Int) rfl rfl rfl rfl ?_))
  obtain ⟨g7, H⟩ := of_need H
  refine WL.appT enc_i64 s3.2 ([x6] : List Int) tk ek rfl rfl (fun _ => rfl) (fun _ => rfl) rfl rfl rfl rfl (nCap_ok g7) rfl rfl rfl rfl rfl ?_
  refine Wr 1 tk sg0 rfl rfl tv (Wn (Qb (Qn ?_)))
  exact Wg (Wr 5 tk sg0 rfl rfl tv (Wn (Qn (⟨⟨(k4, (Go.bits .and .u64 s3.1 (IntKind.u64.wrap (s3.1 - 1)), s3.2 ++ ([x6] : List Int))), H⟩, Nat.lt_succ_self _, Less.mk' ⟨rfl, rfl, tv⟩ ⟨rfl, tv⟩⟩))))
 replace H := of_f H h5
 refine WC.exit (Qx (Qx (Qh (Qn ?_))))
 refine Ws (Wg (Wr 2 tk sg0 rfl rfl tv (Wn (Qn (WC.freezeT 106 enc_i64 s3.2 rfl rfl rfl rfl (Wt ?_))))))
 cases H
 exact Ea rfl rfl rfl tv
theorem bits_Set_List_f : hasFunc Tryd.prog 22 Tryd.f22 := ⟨Tryd.func22, rfl, by kernel_rfl⟩

theorem need_Objects_0 (a0 : List (List T_api_Need)) (a1 : Int) {r : Int} (H : need_Objects a0 a1 = some r) : LJ.Spec Tryd.prog 36 [.d (slT enc_sl_api_Need a0), .d (.int .i64 a1)] [] (.d (.int .u64 r)) [] := by
 refine LJ.Spec.code Tryd.func36 rfl 33 rfl rfl [] rfl fun w0 F0 S0 B0 => ?_
 unfold need_Objects at H
 refine Ws (Wg (Wr 1 tk sg0 rfl rfl tv (Wn (Qn (Ws (Wg (Wr 1 tk sg0 rfl rfl tv (Wn (Qn (Ws (Ws (Wg (Wr 3 tk sg0 rfl rfl tv (Wn (Qn (Wb (Wl (ι := {x : Nat × (Int × Int) // need_Objects_l2 a0 a1 x.1 x.2 = some r}) (fun x => [(1, .d (.int .i64 a1)), (5, .d (.int .u64 x.1.2.1)), (10, .d (slT enc_sl_api_Need a0)), (11, .d (.int .i64 (a0.length : Int))), (12, .d (.int .i64 x.1.2.2))]) (fun x => []) (fun x => x.1.1) ⟨(fuel, (0, 0)), H⟩ (Less.mk' ⟨rfl, rfl, rfl, rfl, rfl, tv⟩ tv) fun x => ?_)))))))))))))))))
 obtain ⟨⟨k2, s1⟩, H⟩ := x
 rcases k2 with _ | k2
 ·exact of_none H
 rw [need_Objects_l2] at H
 refine Ws (Wg (Wr 1 tk sg0 rfl rfl tv (Wn (Qn (Ws (Wc rfl (fun h3 => ?_) (fun h3 => ?_)))))))
 ·replace H := of_t H h3
  refine Wk (Qn ?_)
  obtain ⟨K4, hK4, H⟩ := of_withK H
  refine WC.cut (fun E m => ∃ s5 : Int, K4 s5 = some r ∧ LessW E m [(1, .d (.int .i64 a1)), (5, .d (.int .u64 s5)), (10, .d (slT enc_sl_api_Need a0)), (11, .d (.int .i64 (a0.length : Int))), (12, .d (.int .i64 s1.2))] []) ?_ ?_
  ·refine Wb (Ws (Wg ?_))
   obtain ⟨g6, H⟩ := of_need H
   refine Wr 3 tk sg0 rfl rfl ⟨⟨(nIn_ok g6).1, (nIn_ok g6).2, rfl⟩, tv⟩ (Wn (Qn (Ws (Wg (Wr 3 tk sg0 rfl rfl tv (Wn (Qn (Wb (Wl (ι := {x : Nat × (Int × Int) // need_Objects_l8 a0 a1 s1 K4 x.1 x.2 = some r}) (fun x => [(1, .d (.int .i64 a1)), (5, .d (.int .u64 x.1.2.1)), (10, .d (slT enc_sl_api_Need a0)), (11, .d (.int .i64 (a0.length : Int))), (12, .d (.int .i64 s1.2)), (16, .d (slT enc_api_Need (a0.getD s1.2.toNat default))), (17, .d (.int .i64 ((a0.getD s1.2.toNat default).length : Int))), (18, .d (.int .i64 x.1.2.2))]) (fun x => []) (fun x => x.1.1) ⟨(fuel, (s1.1, 0)), H⟩ (Less.mk' ⟨rfl, rfl, rfl, rfl, rfl, rfl, rfl, rfl, tv⟩ tv) fun x => ?_)))))))))
   obtain ⟨⟨k8, s7⟩, H⟩ := x
   rcases k8 with _ | k8
   ·exact of_none H
   rw [need_Objects_l8] at H
   refine Ws (Wg (Wr 1 tk sg0 rfl rfl tv (Wn (Qn (Ws (Wc rfl (fun h9 => ?_) (fun h9 => ?_)))))))
   ·replace H := of_t H h9
    refine Wk (Qn (Ws (Wb (Ws (Wg ?_)))))
    obtain ⟨g10, H⟩ := of_need H
    refine Wr 2 tk sg0 rfl rfl ⟨⟨(nIn_ok g10).1, (nIn_ok g10).2, rfl⟩, tv⟩ (Wa 109 tk rfl rfl rfl (We 0 tk ek eg0 rfl rfl rfl tv (Wn (Qn (Ws (Wg (Wr 4 tk sg0 rfl rfl tv (Wn (Qn (Wc rfl (fun h11 => ?_) (fun h11 => ?_)))))))))))
    ·replace H := of_t H h11
     refine Wg (Wr 3 tk sg0 rfl rfl tv ?_)
     obtain ⟨x12, hx12, H⟩ := of_bind H
     refine Wf [] (bits_Set_With_0 _ _ hx12) bits_Set_With_f rfl rfl tv rfl rfl rfl (Wr 1 tk sg0 rfl rfl tv (Wn (Qb (Qn ?_))))
     exact Wg (Wr 2 tk sg0 rfl rfl tv (Wn (Qn (⟨⟨(k8, (x12, IntKind.i64.wrap (s7.2 + 1))), H⟩, Nat.lt_succ_self _, Less.mk' ⟨rfl, rfl, rfl, rfl, rfl, rfl, rfl, rfl, tv⟩ tv⟩))))
    replace H := of_f H h11
    refine Wk (Qb (Qn ?_))
    exact Wg (Wr 2 tk sg0 rfl rfl tv (Wn (Qn (⟨⟨(k8, (s7.1, IntKind.i64.wrap (s7.2 + 1))), H⟩, Nat.lt_succ_self _, Less.mk' ⟨rfl, rfl, rfl, rfl, rfl, rfl, rfl, rfl, tv⟩ tv⟩))))
   replace H := of_f H h9
   refine WC.exit (Qx (Qx (Qh (Qb (Qn ?_)))))
   exact ⟨s7.1, H, LessW.mk' ⟨Ao rfl, Ao rfl, Ao rfl, Ao rfl, Ao rfl, tv⟩ tv⟩
  ·rintro E m ⟨s5, H, hl⟩
   refine WC.lessW hl ?_
   replace H := (hK4 _).symm.trans H
   try dsimp only at H
   exact Wg (Wr 2 tk sg0 rfl rfl tv (Wn (Qn (⟨⟨(k2, (s5, IntKind.i64.wrap (s1.2 + 1))), H⟩, Nat.lt_succ_self _, Less.mk' ⟨rfl, rfl, rfl, rfl, rfl, tv⟩ tv⟩))))
 replace H := of_f H h3
 refine WC.exit (Qx (Qx (Qh (Qn ?_))))
 refine Ws (Wg (Wr 2 tk sg0 rfl rfl tv (Wn (Qn (Wt ?_)))))
 cases H
 exact Ea rfl rfl rfl tv
theorem need_Objects_f : hasFunc Tryd.prog 36 Tryd.f36 := ⟨Tryd.func36, rfl, by kernel_rfl⟩

theorem verify_names_0 (a0 : T_api_Program) (a1 : T_api_Ins) {r : Int} (H : verify_names a0 a1 = some r) : LJ.Spec Tryd.prog 23 [.d (.agg [slT enc_api_Decl a0.Decls, slT enc_sl_sl_api_Need a0.Waits, slT enc_api_Func a0.Funcs]), .d (.agg [.int .i64 a1.Op, .int .i64 a1.A, .int .i64 a1.B])] [] (.d (.int .u64 r)) [] := by
 refine LJ.Spec.code Tryd.func23 rfl 63 rfl rfl [] rfl fun w0 F0 S0 B0 => ?_
 unfold verify_names at H
 refine Ws (Wg (We 102 tk ek eg0 rfl rfl rfl tv (We 103 tk ek eg0 rfl rfl rfl tv (Wr 1 tk sg0 rfl rfl tv (Wn (Qn (Ws (Hp (.one 0 true (.one 1 true (.one 2 true (.one 3 true (.one 4 true (.one 5 false (.one 6 true (.one 7 false .done)))))))) [102, 103] [102, 103] rfl (by kernel_rfl) rfl (by kernel_rfl) rfl rfl (fun _ h => h) rfl rfl rfl (fun _ _ _ h => h) fun FK NK wK K => (Hr 4 tk rfl rfl rfl rfl tv (WH.yv rfl (LJ.Y.buildArr 2 [.int .i64 0, .int .i64 0] [.int .i64 a1.A, .int .i64 a1.B] (by kernel_rfl) (by kernel_rfl) rfl rfl rfl) rfl rfl rfl (WH.allocZ 106 [.int .i64 0, .int .i64 0] rfl rfl (by kernel_rfl) rfl rfl rfl rfl rfl rfl (Hr 1 tk rfl rfl rfl rfl tv (He 0 tk ek rfl rfl rfl rfl tv rfl rfl (WH.nil rfl (Qn (Ws (Ws (Wg (Wr 2 tk sg0 rfl rfl tv ?_)))))))))))))))))))
 obtain ⟨x1, hx1, H⟩ := of_bind H
 refine Wf [] (op_Form_0 _ hx1) op_Form_f rfl rfl tv rfl rfl rfl (WL.wo (WO.bytesD enc_u8 x1 rfl rfl rfl (by kernel_rfl) rfl rfl) rfl (Wr 2 tk sg0 rfl rfl tv (Wn (Qn (Wb (Wl (ι := {x : Nat × (Int × Int) // verify_names_l3 a0 a1 x1 x.1 x.2 = some r}) (fun x => [(2, .ptr 102 0), (5, .d (.int .u64 x.1.2.1)), (6, .ptr 106 0), (18, .d (slT enc_u8 (bytesI x1))), (19, .d (.int .i64 ((bytesI x1).length : Int))), (20, .d (.int .i64 x.1.2.2))]) (fun x => [(102, .box 26 [.d (slT enc_api_Decl a0.Decls), .d (slT enc_sl_sl_api_Need a0.Waits), .d (slT enc_api_Func a0.Funcs)]), (106, .box 76 [.d (.int .i64 a1.A), .d (.int .i64 a1.B)])]) (fun x => x.1.1) ⟨(fuel, (0, 0)), H⟩ (Less.mk' ⟨rfl, rfl, rfl, rfl, rfl, rfl, tv⟩ ⟨rfl, rfl, tv⟩) fun x => ?_))))))
 obtain ⟨⟨k3, s2⟩, H⟩ := x
 rcases k3 with _ | k3
 ·exact of_none H
 rw [verify_names_l3] at H
 refine Ws (Wg (Wr 1 tk sg0 rfl rfl tv (Wn (Qn (Ws (Wc rfl (fun h4 => ?_) (fun h4 => ?_)))))))
 ·replace H := of_t H h4
  refine Wk (Qn ?_)
  obtain ⟨K5, hK5, H⟩ := of_withK H
  refine WC.cut (fun E m => ∃ s6 : Int, K5 s6 = some r ∧ LessW E m [(2, .ptr 102 0), (5, .d (.int .u64 s6)), (6, .ptr 106 0), (18, .d (slT enc_u8 (bytesI x1))), (19, .d (.int .i64 ((bytesI x1).length : Int))), (20, .d (.int .i64 s2.2))] [(102, .box 26 [.d (slT enc_api_Decl a0.Decls), .d (slT enc_sl_sl_api_Need a0.Waits), .d (slT enc_api_Func a0.Funcs)]), (106, .box 76 [.d (.int .i64 a1.A), .d (.int .i64 a1.B)])]) ?_ ?_
  ·refine Wb (Ws (Wg ?_))
   obtain ⟨g7, H⟩ := of_need H
   refine Wr 5 tk sg0 rfl rfl ⟨⟨(nIn_ok g7).1, (nIn_ok g7).2, rfl⟩, tv⟩ (Wn (Qn (Ws (Wg (Wr 1 tk sg0 rfl rfl tv (Wn (Qn (Wb (Ws (Ws (Wg (Wr 2 tk sg0 rfl rfl tv (Wn (Qn (Wc rfl (fun h8 => ?_) (fun h8 => ?_))))))))))))))))
   ·replace H := of_t H h8
    refine WC.known (g := 31) true rfl h8 (Wk (Qn (Wc rfl (fun h => ?_) (fun h => absurd h (by decide)))))
    refine Wk (Qb (Qb (Qn ?_)))
    exact ⟨s2.1, H, LessW.mk' ⟨Ao rfl, Ao rfl, Ao rfl, Ao rfl, Ao rfl, Ao rfl, tv⟩ ⟨rfl, rfl, tv⟩⟩
   replace H := of_f H h8
   refine Ws (Wg (Wr 2 tk sg0 rfl rfl tv (Wn (Qn (Wc rfl (fun h9 => ?_) (fun h9 => ?_))))))
   ·replace H := of_t H h9
    refine WC.known (g := 31) true rfl h9 (Wk (Qn (Wc rfl (fun h => ?_) (fun h => absurd h (by decide)))))
    refine Wk (Qb (Qb (Qn ?_)))
    exact ⟨s2.1, H, LessW.mk' ⟨Ao rfl, Ao rfl, Ao rfl, Ao rfl, Ao rfl, Ao rfl, tv⟩ ⟨rfl, rfl, tv⟩⟩
   replace H := of_f H h9
   refine Ws (Wg (Wr 2 tk sg0 rfl rfl tv (Wn (Qn (Wc rfl (fun h10 => ?_) (fun h10 => ?_))))))
   ·replace H := of_t H h10
    refine WC.known (g := 31) true rfl h10 (Wk (Qn (Wc rfl (fun h => ?_) (fun h => absurd h (by decide)))))
    refine Wk (Qb (Qb (Qn ?_)))
    exact ⟨s2.1, H, LessW.mk' ⟨Ao rfl, Ao rfl, Ao rfl, Ao rfl, Ao rfl, Ao rfl, tv⟩ ⟨rfl, rfl, tv⟩⟩
   replace H := of_f H h10
   refine Ws (Wg (Wr 2 tk sg0 rfl rfl tv (Wn (Qn (Wc rfl (fun h11 => ?_) (fun h11 => ?_))))))
   ·replace H := of_t H h11
    refine WC.known (g := 31) true rfl h11 (Wk (Qn (Wc rfl (fun h => ?_) (fun h => absurd h (by decide)))))
    refine Wk (Qb (Qb (Qn ?_)))
    exact ⟨s2.1, H, LessW.mk' ⟨Ao rfl, Ao rfl, Ao rfl, Ao rfl, Ao rfl, Ao rfl, tv⟩ ⟨rfl, rfl, tv⟩⟩
   replace H := of_f H h11
   refine Wg (Wr 2 tk sg0 rfl rfl tv (Wn (Qn (Wc rfl (fun h12 => ?_) (fun h12 => ?_)))))
   ·replace H := of_t H h12
    refine Wk (Qb (Qb (Qn ?_)))
    exact ⟨s2.1, H, LessW.mk' ⟨Ao rfl, Ao rfl, Ao rfl, Ao rfl, Ao rfl, Ao rfl, tv⟩ ⟨rfl, rfl, tv⟩⟩
   replace H := of_f H h12
   refine Ws (Wg (Wr 2 tk sg0 rfl rfl tv (Wn (Qn (Wc rfl (fun h13 => ?_) (fun h13 => ?_))))))
   ·replace H := of_t H h13
    refine Ws (Ws (Hp (.one 0 true (.one 1 true (.one 2 true (.one 3 true (.one 4 true (.one 5 true (.one 6 true .done))))))) [102, 106] [102, 106] rfl (by kernel_rfl) rfl (by kernel_rfl) rfl rfl (fun _ h => h) rfl rfl rfl (fun _ _ _ h => h) fun FK NK wK K => (Hr 1 tk rfl rfl rfl rfl tv ?_)))
    obtain ⟨g14, H⟩ := of_need H
    refine WH.yv rfl (LJ.Y.idxPtrA 2 s2.2 (by kernel_rfl) rfl rfl rfl (nIn_ok g14)) rfl rfl rfl (WH.yv rfl (LJ.Y.loadPtrA 2 0 (fun k => .int .i64 (([a1.A, a1.B] : List Int).getD k default)) s2.2 rfl rfl rfl (by kernel_rfl) rfl (nIn_ok g14)) rfl rfl rfl (Hr 4 tk rfl rfl rfl rfl tv (WH.nil rfl (Qn (Wc rfl (fun h15 => ?_) (fun h15 => ?_))))))
    ·replace H := of_t H h15
     refine WC.exit (Qx (QB.miss rfl (Qh (Qn ?_))))
     exact ⟨s2.1, H, LessW.mk' ⟨Ao rfl, Ao rfl, Ao rfl, Ao rfl, Ao rfl, Ao rfl, tv⟩ ⟨rfl, rfl, tv⟩⟩
    replace H := of_f H h15
    refine Wk (Qn (Ws (Wg (Wr 1 tk sg0 rfl rfl tv (Wn (Qn (Wb (Wl (ι := {x : Nat × (Int × Int) // verify_names_l17 a0 a1 s2 K5 x.1 x.2 = some r}) (fun x => [(2, .ptr 102 0), (5, .d (.int .u64 x.1.2.1)), (6, .ptr 106 0), (7, .d (.int .i64 s2.2)), (9, .d (.int .i64 x.1.2.2)), (18, .d (slT enc_u8 (bytesI x1))), (19, .d (.int .i64 ((bytesI x1).length : Int))), (20, .d (.int .i64 s2.2))]) (fun x => [(102, .box 26 [.d (slT enc_api_Decl a0.Decls), .d (slT enc_sl_sl_api_Need a0.Waits), .d (slT enc_api_Func a0.Funcs)]), (106, .box 76 [.d (.int .i64 a1.A), .d (.int .i64 a1.B)])]) (fun x => x.1.1) ⟨(fuel, (s2.1, 1)), H⟩ (Less.mk' ⟨rfl, rfl, rfl, rfl, rfl, rfl, rfl, rfl, tv⟩ ⟨rfl, rfl, tv⟩) fun x => ?_))))))))
    obtain ⟨⟨k17, s16⟩, H⟩ := x
    rcases k17 with _ | k17
    ·exact of_none H
    rw [verify_names_l17] at H
    refine Ws (Ws (Wg (Wr 2 tk sg0 rfl rfl tv (Wn (Qn (Wc rfl (fun h18 => ?_) (fun h18 => ?_)))))))
    ·replace H := of_t H h18
     refine Wk (Qn (Ws (Wb (Hp (.one 0 true (.one 1 true (.one 2 true (.one 3 true (.one 4 true (.one 5 true (.one 6 true (.one 7 true (.one 8 true (.one 9 false (.one 10 true (.one 11 true .done)))))))))))) [102, 106] [102, 106] rfl (by kernel_rfl) rfl (by kernel_rfl) rfl rfl (fun _ h => h) rfl rfl rfl (fun _ _ _ h => h) fun FK NK wK K => (Hr 4 tk rfl rfl rfl rfl tv ?_)))))
     obtain ⟨g19, H⟩ := of_need H
     refine WH.yv rfl (LJ.Y.idxPtrA 2 s2.2 (by kernel_rfl) rfl rfl rfl (nIn_ok g19)) rfl rfl rfl (WH.yv rfl (LJ.Y.loadPtrA 2 0 (fun k => .int .i64 (([a1.A, a1.B] : List Int).getD k default)) s2.2 rfl rfl rfl (by kernel_rfl) rfl (nIn_ok g19)) rfl rfl rfl ?_)
     obtain ⟨g20, H⟩ := of_need H
     refine Hr 3 tk rfl rfl rfl rfl ⟨⟨(nIn_ok g20).1, (nIn_ok g20).2, rfl⟩, tv⟩ ?_
     obtain ⟨x21, hx21, H⟩ := of_bind H
     refine WH.call [] rfl (need_Objects_0 _ _ hx21) need_Objects_f rfl rfl tv rfl rfl rfl rfl rfl (Hr 2 tk rfl rfl rfl rfl tv (WH.nil rfl (Qb (Qn ?_))))
     exact Wg (Wr 3 tk sg0 rfl rfl tv (Wn (Qn (⟨⟨(k17, (Go.bits .or .u64 s16.1 x21, IntKind.i64.wrap (s16.2 + 1))), H⟩, Nat.lt_succ_self _, Less.mk' ⟨rfl, rfl, rfl, rfl, rfl, rfl, rfl, rfl, tv⟩ ⟨rfl, rfl, tv⟩⟩))))
    replace H := of_f H h18
    refine WC.exit (Qx (Qx (Qh (Qb (Qb (Qn ?_))))))
    exact ⟨s16.1, H, LessW.mk' ⟨Ao rfl, Ao rfl, Ao rfl, Ao rfl, Ao rfl, Ao rfl, tv⟩ ⟨rfl, rfl, tv⟩⟩
   replace H := of_f H h13
   refine Wg (Wr 2 tk sg0 rfl rfl tv ?_)
   obtain ⟨g22, H⟩ := of_need H
   refine WL.yv (LJ.Y.idxPtrA 2 s2.2 (by kernel_rfl) rfl rfl rfl (nIn_ok g22)) rfl rfl rfl (WL.yv (LJ.Y.loadPtrA 2 0 (fun k => .int .i64 (([a1.A, a1.B] : List Int).getD k default)) s2.2 rfl rfl rfl (by kernel_rfl) rfl (nIn_ok g22)) rfl rfl rfl ?_)
   obtain ⟨x23, hx23, H⟩ := of_bind H
   refine Wf [] (bits_Set_With_0 _ _ hx23) bits_Set_With_f rfl rfl tv rfl rfl rfl (Wr 1 tk sg0 rfl rfl tv (Wn (Qb (Qb (Qn ?_)))))
   exact ⟨x23, H, LessW.mk' ⟨Ao rfl, Ao rfl, Ao rfl, Ao rfl, Ao rfl, Ao rfl, tv⟩ ⟨rfl, rfl, tv⟩⟩
  ·rintro E m ⟨s6, H, hl⟩
   refine WC.lessW hl ?_
   replace H := (hK5 _).symm.trans H
   try dsimp only at H
   exact Wg (Wr 2 tk sg0 rfl rfl tv (Wn (Qn (⟨⟨(k3, (s6, IntKind.i64.wrap (s2.2 + 1))), H⟩, Nat.lt_succ_self _, Less.mk' ⟨rfl, rfl, rfl, rfl, rfl, rfl, tv⟩ ⟨rfl, rfl, tv⟩⟩))))
 replace H := of_f H h4
 refine WC.exit (Qx (Qx (Qh (Qn ?_))))
 refine Ws (Wg (Wr 2 tk sg0 rfl rfl tv (Wn (Qn (Wt ?_)))))
 cases H
 exact Ea rfl rfl rfl tv
theorem verify_names_f : hasFunc Tryd.prog 23 Tryd.f23 := ⟨Tryd.func23, rfl, by kernel_rfl⟩

theorem verify_Uses_0 (a0 : T_api_Program) (a1 : Int) {r : Int} (H : verify_Uses a0 a1 = some r) : LJ.Spec Tryd.prog 9 [.d (.agg [slT enc_api_Decl a0.Decls, slT enc_sl_sl_api_Need a0.Waits, slT enc_api_Func a0.Funcs]), .d (.int .i64 a1)] [] (.d (.int .u64 r)) [] := by
 refine LJ.Spec.code Tryd.func9 rfl 38 rfl rfl [] rfl fun w0 F0 S0 B0 => ?_
 unfold verify_Uses at H
 refine Ws (Wg (We 102 tk ek eg0 rfl rfl rfl tv (Wr 1 tk sg0 rfl rfl tv (Wn (Qn (Ws (Wg (Wr 1 tk sg0 rfl rfl tv (Wn (Qn (Ws (Ws (Wg (Wr 2 tk sg0 rfl rfl tv ?_))))))))))))))
 obtain ⟨x1, hx1, H⟩ := of_bind H
 refine Wf [] (verify_Calls_0 _ _ hx1) verify_Calls_f rfl rfl tv rfl rfl rfl ?_
 obtain ⟨x2, hx2, H⟩ := of_bind H
 refine Wf [] (bits_Set_List_0 _ hx2) bits_Set_List_f rfl rfl tv rfl rfl rfl (Wr 2 tk sg0 rfl rfl tv (Wn (Qn (Wb (Wl (ι := {x : Nat × (Int × Int) // verify_Uses_l4 a0 x2 x.1 x.2 = some r}) (fun x => [(2, .ptr 102 0), (5, .d (.int .u64 x.1.2.1)), (13, .d (slT enc_i64 x2)), (14, .d (.int .i64 (x2.length : Int))), (15, .d (.int .i64 x.1.2.2))]) (fun x => [(102, .box 26 [.d (slT enc_api_Decl a0.Decls), .d (slT enc_sl_sl_api_Need a0.Waits), .d (slT enc_api_Func a0.Funcs)])]) (fun x => x.1.1) ⟨(fuel, (0, 0)), H⟩ (Less.mk' ⟨rfl, rfl, rfl, rfl, rfl, tv⟩ ⟨rfl, tv⟩) fun x => ?_)))))
 obtain ⟨⟨k4, s3⟩, H⟩ := x
 rcases k4 with _ | k4
 ·exact of_none H
 rw [verify_Uses_l4] at H
 refine Ws (Wg (Wr 1 tk sg0 rfl rfl tv (Wn (Qn (Ws (Wc rfl (fun h5 => ?_) (fun h5 => ?_)))))))
 ·replace H := of_t H h5
  refine Wk (Qn ?_)
  obtain ⟨K6, hK6, H⟩ := of_withK H
  refine WC.cut (fun E m => ∃ s7 : Int, K6 s7 = some r ∧ LessW E m [(2, .ptr 102 0), (5, .d (.int .u64 s7)), (13, .d (slT enc_i64 x2)), (14, .d (.int .i64 (x2.length : Int))), (15, .d (.int .i64 s3.2))] [(102, .box 26 [.d (slT enc_api_Decl a0.Decls), .d (slT enc_sl_sl_api_Need a0.Waits), .d (slT enc_api_Func a0.Funcs)])]) ?_ ?_
  ·refine Wb (Ws (Wg ?_))
   obtain ⟨g8, H⟩ := of_need H
   refine Wr 3 tk sg0 rfl rfl ⟨⟨(nIn_ok g8).1, (nIn_ok g8).2, rfl⟩, tv⟩ (Wn (Qn (Ws (Wg ?_))))
   obtain ⟨g9, H⟩ := of_need H
   refine Wr 8 tk sg0 rfl rfl ⟨⟨(nIn_ok g9).1, (nIn_ok g9).2, rfl⟩, tv⟩ (Wn (Qn (Wb (Wl (ι := {x : Nat × (Int × Int) // verify_Uses_l11 a0 x2 s3 K6 x.1 x.2 = some r}) (fun x => [(2, .ptr 102 0), (5, .d (.int .u64 x.1.2.1)), (13, .d (slT enc_i64 x2)), (14, .d (.int .i64 (x2.length : Int))), (15, .d (.int .i64 s3.2)), (24, .d (slT enc_api_Ins ((a0.Funcs.getD (x2.getD s3.2.toNat default).toNat default).Code))), (25, .d (.int .i64 (((a0.Funcs.getD (x2.getD s3.2.toNat default).toNat default).Code).length : Int))), (26, .d (.int .i64 x.1.2.2))]) (fun x => [(102, .box 26 [.d (slT enc_api_Decl a0.Decls), .d (slT enc_sl_sl_api_Need a0.Waits), .d (slT enc_api_Func a0.Funcs)])]) (fun x => x.1.1) ⟨(fuel, (s3.1, 0)), H⟩ (Less.mk' ⟨rfl, rfl, rfl, rfl, rfl, rfl, rfl, rfl, tv⟩ ⟨rfl, tv⟩) fun x => ?_))))
   obtain ⟨⟨k11, s10⟩, H⟩ := x
   rcases k11 with _ | k11
   ·exact of_none H
   rw [verify_Uses_l11] at H
   refine Ws (Wg (Wr 1 tk sg0 rfl rfl tv (Wn (Qn (Ws (Wc rfl (fun h12 => ?_) (fun h12 => ?_)))))))
   ·replace H := of_t H h12
    refine Wk (Qn (Ws (Wb (Ws (Wg ?_)))))
    obtain ⟨g13, H⟩ := of_need H
    refine Wr 2 tk sg0 rfl rfl ⟨⟨(nIn_ok g13).1, (nIn_ok g13).2, rfl⟩, tv⟩ (Wa 109 tk rfl rfl rfl (We 0 tk ek eg0 rfl rfl rfl tv (Wn (Qn (Wg (Wr 3 tk sg0 rfl rfl tv ?_))))))
    obtain ⟨x14, hx14, H⟩ := of_bind H
    refine Wf [] (verify_names_0 _ _ hx14) verify_names_f rfl rfl tv rfl rfl rfl (Wr 2 tk sg0 rfl rfl tv (Wn (Qb (Qn ?_))))
    exact Wg (Wr 2 tk sg0 rfl rfl tv (Wn (Qn (⟨⟨(k11, (Go.bits .or .u64 s10.1 x14, IntKind.i64.wrap (s10.2 + 1))), H⟩, Nat.lt_succ_self _, Less.mk' ⟨rfl, rfl, rfl, rfl, rfl, rfl, rfl, rfl, tv⟩ ⟨rfl, tv⟩⟩))))
   replace H := of_f H h12
   refine WC.exit (Qx (Qx (Qh (Qb (Qn ?_)))))
   exact ⟨s10.1, H, LessW.mk' ⟨Ao rfl, Ao rfl, Ao rfl, Ao rfl, Ao rfl, tv⟩ ⟨rfl, tv⟩⟩
  ·rintro E m ⟨s7, H, hl⟩
   refine WC.lessW hl ?_
   replace H := (hK6 _).symm.trans H
   try dsimp only at H
   exact Wg (Wr 2 tk sg0 rfl rfl tv (Wn (Qn (⟨⟨(k4, (s7, IntKind.i64.wrap (s3.2 + 1))), H⟩, Nat.lt_succ_self _, Less.mk' ⟨rfl, rfl, rfl, rfl, rfl, tv⟩ ⟨rfl, tv⟩⟩))))
 replace H := of_f H h5
 refine WC.exit (Qx (Qx (Qh (Qn ?_))))
 refine Ws (Wg (Wr 2 tk sg0 rfl rfl tv (Wn (Qn (Wt ?_)))))
 cases H
 exact Ea rfl rfl rfl tv
theorem verify_Uses_f : hasFunc Tryd.prog 9 Tryd.f9 := ⟨Tryd.func9, rfl, by kernel_rfl⟩

def partOf : Nat → Code → Code
 | 0, .seq x _ => x
 | n + 1, .seq _ y => partOf n y
 | _, c => c
def restOf : Nat → Code → Code
 | 0, c => c
 | n + 1, .seq _ y => restOf n y
 | _, c => c
def bodyOf (f : Func) : Code := match f.body with | some c => c | none => .skip
section
variable {P : Program} {ops : Array Oper} {Q : Exit → Act → World → Prop} {l : List Oper} {o : Oper} {a : Act} {w w' : World} {v : Value}
theorem raw_val (d : Nat) (hg : o.guard = none) (hd : o.dst = some d) (hrun : (execOp a.eval o).run P w = .ok (.value v) w') (h : wpList P ops Q l (a.put (some d) v) w') : wpList P ops Q (o :: l) a w := wpList_plain hg fun K hK => by
 unfold Oper.wp
 rw [hrun, Oper.upon_value, hd]
 exact hK _ _ h
theorem raw_skip (hg : o.guard = none) (hd : o.dst = none) (hrun : (execOp a.eval o).run P w = .ok .skip w') (h : wpList P ops Q l a w') : wpList P ops Q (o :: l) a w := wpList_plain hg fun K hK => by
 unfold Oper.wp
 rw [hrun, Oper.upon_skip]
 exact hK _ _ (by rw [hd]; exact h)
theorem ev_same {d : Nat} (h : d < a.tmps.size) : (a.put (some d) v).eval (.tmp d) = v := by
 show (a.put (some d) v).tmps.getD d undef = v
 simp only [Act.put]
 rw [getD_set, if_pos ⟨rfl, h⟩]
theorem ev_ne {d t : Nat} (h : d ≠ t) : (a.put (some d) v).eval (.tmp t) = a.eval (.tmp t) := by
 show (a.put (some d) v).tmps.getD t undef = a.tmps.getD t undef
 simp only [Act.put]
 rw [getD_set, if_neg (fun e => h e.1)]
theorem put_size {d : Option Nat} : (a.put d v).tmps.size = a.tmps.size := by cases d <;> simp [Act.put]
theorem put_defers {d : Option Nat} : (a.put d v).defers = a.defers := by cases d <;> rfl
end
/-- The blocks that the first region makes. -/
structure Made (n : Nat) (ins : Int) (w : World) : Prop where
 c0 : w.heap[n]? = some (.cells #[.int .i64 3, .int .i64 0, .int .i64 1] 48 (0, 0))
 c1 : w.heap[n + 1]? = some (.cells #[.int .i64 ins, .int .i64 0, .int .i64 0, .int .i64 21, .int .i64 0, .int .i64 0] 46 (0, 0))
 c2 : w.heap[n + 2]? = some (.cells #[.int .i64 0, .int .i64 0, .slice (some ⟨n + 1, 0, none⟩) 2 2] 44 (0, 0))
 c3 : w.heap[n + 3]? = some (.cells #[.slice (some ⟨n, 0, none⟩) 1 1, .slice none 0 0, .slice (some ⟨n + 2, 0, none⟩) 1 1] 26 (0, 0))
theorem rep_made {F : Nat → Prop} {w : World} {g k sz : Nat} {e : TypeId} {cur : Array Value} {es : List (List DV)} (hc : w.heap[g]? = some (.cells cur e (0, 0))) (hF : F g) (hk : es.length = k) (hm : k ≤ 1000) (hsz : cur.size = k * sz) (hes : ∀ e ∈ es, e.length = sz) (h : ∀ (i : Nat) (v : Value) (x : DV), cur.toList[i]? = some v → es.flatten[i]? = some x → RepD F w v x) : RepD F w (.slice (some ⟨g, 0, none⟩) k k) (.sl es) := by
 have hh : Holds F ⟨fun _ => 0, fun _ => .slice (some ⟨g, 0, none⟩) k k⟩ w 0 (.row e sz es) := ⟨cur.toList, ⟨by rw [Array.length_toList, hk]; exact hsz, .inr ⟨g, k, cur, by rw [hk], Nat.zero_le _, hc, by omega, by simp only [maxLen]; omega, hsz, by rw [List.take_of_length_le]; rw [Array.length_toList, hsz, hk]; exact Nat.le_refl _⟩⟩, hes, h⟩
 refine hh.row_rep.mono (fun b hb => ?_) (fun _ _ => rfl)
 rcases hb with hb | hb
 ·exact hb
 ·have : g = b := by simpa [blk, Value.ownBlock] using hb
  rw [← this]; exact hF
/-- What the program says. -/
theorem made_rep {F : Nat → Prop} {n : Nat} {ins : Int} {w : World} (h : Made n ins w) (h0 : F n) (h1 : F (n + 1)) (h2 : F (n + 2)) :
  RepD F w (.slice (some ⟨n, 0, none⟩) 1 1) (slT enc_api_Decl [(⟨3, 0, 1⟩ : T_api_Decl)]) ∧ RepD F w (.slice none 0 0) (slT enc_sl_sl_api_Need []) ∧ RepD F w (.slice (some ⟨n + 2, 0, none⟩) 1 1) (slT enc_api_Func [(⟨0, 0, [(⟨ins, 0, 0⟩ : T_api_Ins), (⟨21, 0, 0⟩ : T_api_Ins)]⟩ : T_api_Func)]) := by
 have kI : RepD F w (.slice (some ⟨n + 1, 0, none⟩) 2 2) (slT enc_api_Ins [(⟨ins, 0, 0⟩ : T_api_Ins), (⟨21, 0, 0⟩ : T_api_Ins)]) := by
  refine .slf (rep_made (sz := 3) h.c1 h1 rfl (by decide) rfl (fun e he => ?_) fun i v x hv hx => ?_)
  ·simp [tab, enc_api_Ins, List.range_succ] at he
   rcases he with rfl | rfl <;> rfl
  ·have hi : i = 0 ∨ i = 1 ∨ i = 2 ∨ i = 3 ∨ i = 4 ∨ i = 5 ∨ 6 ≤ i := by omega
   rcases hi with rfl | rfl | rfl | rfl | rfl | rfl | hi
   ·cases hv; cases hx; exact .int
   ·cases hv; cases hx; exact .int
   ·cases hv; cases hx; exact .int
   ·cases hv; cases hx; exact .int
   ·cases hv; cases hx; exact .int
   ·cases hv; cases hx; exact .int
   ·rw [List.getElem?_eq_none (by simpa using hi)] at hv; cases hv
 refine ⟨.slf (rep_made (sz := 3) h.c0 h0 rfl (by decide) rfl (fun e he => ?_) fun i v x hv hx => ?_), .slf .nil, .slf (rep_made (sz := 3) h.c2 h2 rfl (by decide) rfl (fun e he => ?_) fun i v x hv hx => ?_)⟩
 ·simp [tab, enc_api_Decl, List.range_succ] at he
  subst he; rfl
 ·have hi : i = 0 ∨ i = 1 ∨ i = 2 ∨ 3 ≤ i := by omega
  rcases hi with rfl | rfl | rfl | hi
  ·cases hv; cases hx; exact .int
  ·cases hv; cases hx; exact .int
  ·cases hv; cases hx; exact .int
  ·rw [List.getElem?_eq_none (by simpa using hi)] at hv; cases hv
 ·simp [tab, enc_api_Func, List.range_succ] at he
  subst he; rfl
 ·have hi : i = 0 ∨ i = 1 ∨ i = 2 ∨ 3 ≤ i := by omega
  rcases hi with rfl | rfl | rfl | hi
  ·cases hv; cases hx; exact .int
  ·cases hv; cases hx; exact .int
  ·cases hv; cases hx; exact kI
  ·rw [List.getElem?_eq_none (by simpa using hi)] at hv; cases hv
theorem lives_r1 {Q : Exit → Act → World → Prop} {a : Act} {w : World} (hs : a.tmps.size = 54) (h : ∀ a' w', a'.defers = a.defers → a'.tmps.size = 54 → a'.tmps.getD 1 undef = .pointer (some ⟨w.heap.size + 3, 0, none⟩) → Made w.heap.size 22 w' → w'.heap.size = w.heap.size + 4 → w'.os = w.os → w'.tape = w.tape → w'.output = w.output → (∀ b, b < w.heap.size → w'.heap[b]? = w.heap[b]?) → Q .normal a' w') : (partOf 1 (bodyOf Tryd.f6)).wp Tryd.prog Q a w := by
 refine wp_region_lit (raw_val (v := .agg #[.int .i64 3, .int .i64 0, .int .i64 1]) (w' := w) 7 rfl rfl (by kernel_rfl) ?_)
 generalize ha1 : a.put (some 7) _ = a1
 have s1 : a1.tmps.size = 54 := by rw [← ha1, put_size, hs]
 have e7 : a1.eval (.tmp 7) = .agg #[.int .i64 3, .int .i64 0, .int .i64 1] := by rw [← ha1]; exact ev_same (by omega)
 have d1 : a1.defers = a.defers := by rw [← ha1, put_defers]
 refine raw_val (v := .slice (some ⟨w.heap.size, 0, none⟩) 1 1) (w' := w.alloc (.cells #[.int .i64 3, .int .i64 0, .int .i64 1] 48)) 8 rfl rfl (by
  unfold execOp
  simp only [List.map_toArray, List.map_cons, List.map_nil, e7]
  kernel_rfl) ?_
 generalize hw1 : w.alloc (.cells #[.int .i64 3, .int .i64 0, .int .i64 1] 48) = w1
 generalize ha2 : a1.put (some 8) _ = a2
 have s2 : a2.tmps.size = 54 := by rw [← ha2, put_size, s1]
 have e8 : a2.eval (.tmp 8) = .slice (some ⟨w.heap.size, 0, none⟩) 1 1 := by rw [← ha2]; exact ev_same (by omega)
 have d2 : a2.defers = a.defers := by rw [← ha2, put_defers, d1]
 refine raw_val (v := .agg #[.int .i64 22, .int .i64 0, .int .i64 0]) (w' := w1) 9 rfl rfl (by kernel_rfl) ?_
 generalize ha3 : a2.put (some 9) _ = a3
 have s3 : a3.tmps.size = 54 := by rw [← ha3, put_size, s2]
 have e9 : a3.eval (.tmp 9) = .agg #[.int .i64 22, .int .i64 0, .int .i64 0] := by rw [← ha3]; exact ev_same (by omega)
 have f8 : a3.eval (.tmp 8) = .slice (some ⟨w.heap.size, 0, none⟩) 1 1 := by rw [← ha3, ev_ne (by decide)]; exact e8
 have d3 : a3.defers = a.defers := by rw [← ha3, put_defers, d2]
 refine raw_val (v := .agg #[.int .i64 21, .int .i64 0, .int .i64 0]) (w' := w1) 10 rfl rfl (by kernel_rfl) ?_
 generalize ha4 : a3.put (some 10) _ = a4
 have s4 : a4.tmps.size = 54 := by rw [← ha4, put_size, s3]
 have e10 : a4.eval (.tmp 10) = .agg #[.int .i64 21, .int .i64 0, .int .i64 0] := by rw [← ha4]; exact ev_same (by omega)
 have f9 : a4.eval (.tmp 9) = .agg #[.int .i64 22, .int .i64 0, .int .i64 0] := by rw [← ha4, ev_ne (by decide)]; exact e9
 have g8 : a4.eval (.tmp 8) = .slice (some ⟨w.heap.size, 0, none⟩) 1 1 := by rw [← ha4, ev_ne (by decide)]; exact f8
 have d4 : a4.defers = a.defers := by rw [← ha4, put_defers, d3]
 refine raw_val (v := .slice (some ⟨w1.heap.size, 0, none⟩) 2 2) (w' := w1.alloc (.cells #[.int .i64 22, .int .i64 0, .int .i64 0, .int .i64 21, .int .i64 0, .int .i64 0] 46)) 11 rfl rfl (by
  unfold execOp
  simp only [List.map_toArray, List.map_cons, List.map_nil, f9, e10]
  kernel_rfl) ?_
 generalize hw2 : w1.alloc (.cells #[.int .i64 22, .int .i64 0, .int .i64 0, .int .i64 21, .int .i64 0, .int .i64 0] 46) = w2
 generalize ha5 : a4.put (some 11) _ = a5
 have s5 : a5.tmps.size = 54 := by rw [← ha5, put_size, s4]
 have e11 : a5.eval (.tmp 11) = .slice (some ⟨w1.heap.size, 0, none⟩) 2 2 := by rw [← ha5]; exact ev_same (by omega)
 have h8 : a5.eval (.tmp 8) = .slice (some ⟨w.heap.size, 0, none⟩) 1 1 := by rw [← ha5, ev_ne (by decide)]; exact g8
 have d5 : a5.defers = a.defers := by rw [← ha5, put_defers, d4]
 refine raw_val (v := .agg #[.int .i64 0, .int .i64 0, .slice (some ⟨w1.heap.size, 0, none⟩) 2 2]) (w' := w2) 12 rfl rfl (by
  unfold execOp
  simp only [List.map_toArray, List.map_cons, List.map_nil, e11]
  kernel_rfl) ?_
 generalize ha6 : a5.put (some 12) _ = a6
 have s6 : a6.tmps.size = 54 := by rw [← ha6, put_size, s5]
 have e12 : a6.eval (.tmp 12) = .agg #[.int .i64 0, .int .i64 0, .slice (some ⟨w1.heap.size, 0, none⟩) 2 2] := by rw [← ha6]; exact ev_same (by omega)
 have i8 : a6.eval (.tmp 8) = .slice (some ⟨w.heap.size, 0, none⟩) 1 1 := by rw [← ha6, ev_ne (by decide)]; exact h8
 have d6 : a6.defers = a.defers := by rw [← ha6, put_defers, d5]
 refine raw_val (v := .slice (some ⟨w2.heap.size, 0, none⟩) 1 1) (w' := w2.alloc (.cells #[.int .i64 0, .int .i64 0, .slice (some ⟨w1.heap.size, 0, none⟩) 2 2] 44)) 13 rfl rfl (by
  unfold execOp
  simp only [List.map_toArray, List.map_cons, List.map_nil, e12]
  kernel_rfl) ?_
 generalize hw3 : w2.alloc (.cells #[.int .i64 0, .int .i64 0, .slice (some ⟨w1.heap.size, 0, none⟩) 2 2] 44) = w3
 generalize ha7 : a6.put (some 13) _ = a7
 have s7 : a7.tmps.size = 54 := by rw [← ha7, put_size, s6]
 have e13 : a7.eval (.tmp 13) = .slice (some ⟨w2.heap.size, 0, none⟩) 1 1 := by rw [← ha7]; exact ev_same (by omega)
 have j8 : a7.eval (.tmp 8) = .slice (some ⟨w.heap.size, 0, none⟩) 1 1 := by rw [← ha7, ev_ne (by decide)]; exact i8
 have d7 : a7.defers = a.defers := by rw [← ha7, put_defers, d6]
 refine raw_val (v := .agg #[.slice (some ⟨w.heap.size, 0, none⟩) 1 1, .slice none 0 0, .slice (some ⟨w2.heap.size, 0, none⟩) 1 1]) (w' := w3) 14 rfl rfl (by
  unfold execOp
  simp only [List.map_toArray, List.map_cons, List.map_nil, j8, e13]
  kernel_rfl) ?_
 generalize ha8 : a7.put (some 14) _ = a8
 have s8 : a8.tmps.size = 54 := by rw [← ha8, put_size, s7]
 have e14 : a8.eval (.tmp 14) = .agg #[.slice (some ⟨w.heap.size, 0, none⟩) 1 1, .slice none 0 0, .slice (some ⟨w2.heap.size, 0, none⟩) 1 1] := by rw [← ha8]; exact ev_same (by omega)
 have d8 : a8.defers = a.defers := by rw [← ha8, put_defers, d7]
 refine raw_val (v := .pointer (some ⟨w3.heap.size, 0, none⟩)) (w' := w3.alloc (.cells #[.slice none 0 0, .slice none 0 0, .slice none 0 0] 26)) 1 rfl rfl (by kernel_rfl) ?_
 generalize hw4 : w3.alloc (.cells #[.slice none 0 0, .slice none 0 0, .slice none 0 0] 26) = w4
 generalize ha9 : a8.put (some 1) _ = a9
 have s9 : a9.tmps.size = 54 := by rw [← ha9, put_size, s8]
 have e1 : a9.eval (.tmp 1) = .pointer (some ⟨w3.heap.size, 0, none⟩) := by rw [← ha9]; exact ev_same (by omega)
 have f14 : a9.eval (.tmp 14) = .agg #[.slice (some ⟨w.heap.size, 0, none⟩) 1 1, .slice none 0 0, .slice (some ⟨w2.heap.size, 0, none⟩) 1 1] := by rw [← ha9, ev_ne (by decide)]; exact e14
 have d9 : a9.defers = a.defers := by rw [← ha9, put_defers, d8]
 have z1 : w1.heap.size = w.heap.size + 1 := by rw [← hw1]; simp
 have z2 : w2.heap.size = w.heap.size + 2 := by rw [← hw2]; simp [z1]
 have z3 : w3.heap.size = w.heap.size + 3 := by rw [← hw3]; simp [z2]
 have z4 : w4.heap.size = w.heap.size + 4 := by rw [← hw4]; simp [z3]
 have k1 : ∀ b, b < w.heap.size → w1.heap[b]? = w.heap[b]? := fun b hb => by rw [← hw1]; exact heap_alloc_old w _ hb
 have k2 : ∀ b, b < w1.heap.size → w2.heap[b]? = w1.heap[b]? := fun b hb => by rw [← hw2]; exact heap_alloc_old w1 _ hb
 have k3 : ∀ b, b < w2.heap.size → w3.heap[b]? = w2.heap[b]? := fun b hb => by rw [← hw3]; exact heap_alloc_old w2 _ hb
 have k4 : ∀ b, b < w3.heap.size → w4.heap[b]? = w3.heap[b]? := fun b hb => by rw [← hw4]; exact heap_alloc_old w3 _ hb
 have n0 : w1.heap[w.heap.size]? = some (.cells #[.int .i64 3, .int .i64 0, .int .i64 1] 48 (0, 0)) := by rw [← hw1]; exact heap_new w _
 have n1 : w2.heap[w1.heap.size]? = some (.cells #[.int .i64 22, .int .i64 0, .int .i64 0, .int .i64 21, .int .i64 0, .int .i64 0] 46 (0, 0)) := by rw [← hw2]; exact heap_new w1 _
 have n2 : w3.heap[w2.heap.size]? = some (.cells #[.int .i64 0, .int .i64 0, .slice (some ⟨w1.heap.size, 0, none⟩) 2 2] 44 (0, 0)) := by rw [← hw3]; exact heap_new w2 _
 have n3 : w4.heap[w3.heap.size]? = some (.cells #[.slice none 0 0, .slice none 0 0, .slice none 0 0] 26 (0, 0)) := by rw [← hw4]; exact heap_new w3 _
 obtain ⟨w5, r1, r2, r3, r4, r5, r6, r7⟩ := setCells_heap (P := Tryd.prog) w3.heap.size 26 [.slice (some ⟨w.heap.size, 0, none⟩) 1 1, .slice none 0 0, .slice (some ⟨w2.heap.size, 0, none⟩) 1 1] 0 0 _ w4 n3 (by simp) (by intro u hu; simp at hu; rcases hu with rfl | rfl | rfl <;> rfl)
 have hsz : ∀ W : World, (Go.sizeOf 26).run Tryd.prog W = .ok 3 W := fun W => by kernel_rfl
 refine raw_skip (w' := w5) rfl rfl (by
  unfold execOp
  simp only [e1, f14]
  simp [Instr.storeAt, Instr.sureAddr, storeVar, hsz, Value.cells, r1]) (wpList_nil ?_)
 have t1 : w.tape = w1.tape ∧ w1.tape = w2.tape ∧ w2.tape = w3.tape ∧ w3.tape = w4.tape := ⟨by rw [← hw1]; rfl, by rw [← hw2]; rfl, by rw [← hw3]; rfl, by rw [← hw4]; rfl⟩
 have t2 : w.os = w1.os ∧ w1.os = w2.os ∧ w2.os = w3.os ∧ w3.os = w4.os := ⟨by rw [← hw1]; rfl, by rw [← hw2]; rfl, by rw [← hw3]; rfl, by rw [← hw4]; rfl⟩
 have t3 : w.output = w1.output ∧ w1.output = w2.output ∧ w2.output = w3.output ∧ w3.output = w4.output := ⟨by rw [← hw1]; rfl, by rw [← hw2]; rfl, by rw [← hw3]; rfl, by rw [← hw4]; rfl⟩
 refine h a9 w5 d9 s9 (by rw [← z3]; exact e1) ⟨?_, ?_, ?_, ?_⟩ (by rw [r6, z4]) (by rw [r3, t2.1, t2.2.1, t2.2.2.1, t2.2.2.2]) (by rw [r4, t1.1, t1.2.1, t1.2.2.1, t1.2.2.2]) (by rw [r5, t3.1, t3.2.1, t3.2.2.1, t3.2.2.2]) (fun b hb => ?_)
 ·rw [r7 _ (by omega), k4 _ (by omega), k3 _ (by omega), k2 _ (by omega)]; exact n0
 ·rw [r7 _ (by omega), k4 _ (by omega), k3 _ (by omega), ← z1]; exact n1
 ·rw [r7 _ (by omega), k4 _ (by omega), ← z2, ← z1]; exact n2
 ·rw [← z3, ← z2]
  simpa using r2
 ·rw [r7 _ (by omega), k4 _ (by omega), k3 _ (by omega), k2 _ (by omega)]; exact k1 b hb

theorem lives_start {w0 : World} {F0 S0 : Nat → Prop} {B0 : Names} {E : Env} {a a' : Act} {w w' : World} (hr : Rel { w0 := w0, F0 := F0, S0 := S0, ntmps := 54, P0 := [], B0 := B0 } E [] a w) (hd : a'.defers = a.defers) (hs : a'.tmps.size = 54) (h1 : a'.tmps.getD 1 undef = .pointer (some ⟨w.heap.size + 3, 0, none⟩)) (hm : Made w.heap.size 22 w') (hz : w'.heap.size = w.heap.size + 4) (ho : w'.os = w.os) (ht : w'.tape = w.tape) (hp : w'.output = w.output) (hk : ∀ b, b < w.heap.size → w'.heap[b]? = w.heap[b]?) :
  ∃ (F1 : Nat → Prop) (N1 : Names), N1.β 1 = w.heap.size + 3 ∧ F1 w.heap.size ∧ F1 (w.heap.size + 1) ∧ F1 (w.heap.size + 2) ∧ (∃ Fi : Nat → Prop, (∀ b, Fi b → b < w.heap.size ∧ F1 b) ∧ GlobAt Fi w') ∧ w0.heap.size ≤ w.heap.size ∧ (∀ b, F0 b → F1 b) ∧ (∀ b, F1 b → F0 b ∨ w0.heap.size ≤ b ∨ S0 b) ∧
   Rel { w0 := w0, F0 := F1, S0 := S0, ntmps := 54, P0 := [1], B0 := N1, K := fun _ => True, wK := w', KN := [1] } [(1, .ptr 1 0)] [(1, .box 26 [.d (slT enc_api_Decl [(⟨3, 0, 1⟩ : T_api_Decl)]), .d (slT enc_sl_sl_api_Need []), .d (slT enc_api_Func [(⟨0, 0, [(⟨22, 0, 0⟩ : T_api_Ins), (⟨21, 0, 0⟩ : T_api_Ins)]⟩ : T_api_Func)])])] a' w' := by
 obtain ⟨g1, g2, F, N, gm, ge⟩ := hr
 let n := w.heap.size
 let F1 : Nat → Prop := fun b => F b ∨ b = w.heap.size ∨ b = w.heap.size + 1 ∨ b = w.heap.size + 2
 let N1 : Names := ⟨fun _ => w.heap.size + 3, fun _ => undef⟩
 have gl : ∀ g cs, gget globs g = some cs → F g := fun g cs hg => by
  obtain ⟨p1, _⟩ := ge.glob g cs hg
  obtain ⟨ad, u, e, _, hB, _⟩ := p1.elp_inv
  cases e
  exact hB
 have hF1 : ∀ b, F1 b → b < w'.heap.size ∧ b ≠ w.heap.size + 3 := fun b hb => by
  rcases hb with hb | hb
  ·have := gm.Fin b hb
   omega
  ·omega
 obtain ⟨q1, q2, q3⟩ := made_rep (F := F1) hm (.inr (.inl rfl)) (.inr (.inr (.inl rfl))) (.inr (.inr (.inr rfl)))
 have gsz : w0.heap.size ≤ w.heap.size := gm.size
 have get1 : ∀ (k : Nat) (o : AObj), Mem.get [(1, .box 26 [.d (slT enc_api_Decl [(⟨3, 0, 1⟩ : T_api_Decl)]), .d (slT enc_sl_sl_api_Need []), .d (slT enc_api_Func [(⟨0, 0, [(⟨22, 0, 0⟩ : T_api_Ins), (⟨21, 0, 0⟩ : T_api_Ins)]⟩ : T_api_Func)])])] k = some o → k = 1 ∧ o = .box 26 [.d (slT enc_api_Decl [(⟨3, 0, 1⟩ : T_api_Decl)]), .d (slT enc_sl_sl_api_Need []), .d (slT enc_api_Func [(⟨0, 0, [(⟨22, 0, 0⟩ : T_api_Ins), (⟨21, 0, 0⟩ : T_api_Ins)]⟩ : T_api_Func)])] := fun k o hk => by
  simp only [Mem.get] at hk
  cases e : Nat.beq 1 k with
  | true => rw [e] at hk; simp only [cond_true, Option.some.injEq] at hk; exact ⟨(Nat.eq_of_beq_eq_true e).symm, hk.symm⟩
  | false => rw [e] at hk; cases hk
 refine ⟨F1, N1, rfl, .inr (.inl rfl), .inr (.inr (.inl rfl)), .inr (.inr (.inr rfl)), ⟨F, fun b hb => ⟨gm.Fin b hb, .inl hb⟩, ge.glob.mono (fun _ h => h) (fun b hb => hk b (gm.Fin b hb))⟩, gsz, fun b hb => .inl (gm.F0 b hb), fun b hb => ?_, hd.trans g1, hs, F1, N1, ⟨fun _ h => h, fun b hb => .inl hb, fun b hb => (hF1 b hb).1, ho.trans gm.os, ht.trans gm.tape, hp.trans gm.output, ?_, fun b hb hS => ?_, fun k o hk' => ?_, fun k o b hk' hb => ?_, fun k k' o o' b hk1 hk2 _ _ => ?_, fun k hk' => ⟨rfl, fun _ => rfl⟩, fun _ _ _ => rfl, fun k o b hk' _ _ _ => ?_, Nat.le_refl _⟩, ⟨fun t => ?_, ge.glob.mono (fun b hb => .inl hb) (fun b hb => hk b (gm.Fin b hb))⟩⟩
 ·rcases hb with hb | hb
  ·exact gm.Fnew b hb
  ·exact .inr (.inl (by omega))
 ·show w0.heap.size ≤ w'.heap.size
  omega
 ·exact (hk b (Nat.lt_of_lt_of_le hb gsz)).trans (gm.kept b hb hS)
 ·obtain ⟨rfl, rfl⟩ := get1 k o hk'
  refine ⟨[.slice (some ⟨w.heap.size, 0, none⟩) 1 1, .slice none 0 0, .slice (some ⟨w.heap.size + 2, 0, none⟩) 1 1], hm.c3, rfl, fun i v p hv hp => ?_⟩
  have hi : i = 0 ∨ i = 1 ∨ i = 2 ∨ 3 ≤ i := by omega
  rcases hi with rfl | rfl | rfl | hi
  ·cases hv; cases hp; exact .d q1
  ·cases hv; cases hp; exact .d q2
  ·cases hv; cases hp; exact .d q3
  ·rw [List.getElem?_eq_none (by simpa using hi)] at hv; cases hv
 ·obtain ⟨rfl, rfl⟩ := get1 k o hk'
  have : w.heap.size + 3 = b := by injection hb
  subst this
  refine ⟨fun h => (hF1 _ h).2 rfl, .inr ?_⟩
  show w0.heap.size ≤ w.heap.size + 3
  omega
 ·rw [(get1 k o hk1).1, (get1 k' o' hk2).1]
 ·rw [(get1 k o hk').1]; rfl
 ·simp only [Env.get]
  cases e : Nat.beq 1 t with
  | true =>
   rw [← Nat.eq_of_beq_eq_true e, h1]
   exact .ptr
  | false => exact .und
theorem lives_poke {w0 wK : World} {F0 F1 S0 : Nat → Prop} {B0 N1 : Names} {Q : Exit → Act → World → Prop} {a : Act} {w : World} {n : Nat} {e u : Int} {cs : List AV} (hn : N1.β 1 = n + 3) (f0 : F1 n) (f1 : F1 (n + 1)) (f2 : F1 (n + 2)) (hg : ∃ Fi : Nat → Prop, (∀ b, Fi b → b < n ∧ F1 b) ∧ GlobAt Fi wK) (hw0 : w0.heap.size ≤ n) (hF0 : ∀ b, F0 b → F1 b) (hFn : ∀ b, F1 b → F0 b ∨ w0.heap.size ≤ b ∨ S0 b) (hK : Made n 22 wK) (hKz : wK.heap.size = n + 4)
  (hr : Rel { w0 := w0, F0 := F1, S0 := S0, ntmps := 54, P0 := [1], B0 := N1, K := fun _ => True, wK := wK, KN := [1] } [(1, .ptr 1 0), (3, .d (.int .i64 e)), (4, .d (.int .u64 u))] [(1, .box 26 cs)] a w)
  (h : ∀ a' w', Rel { w0 := w0, F0 := F0, S0 := S0, ntmps := 54, P0 := [], B0 := B0 } [(1, .ptr 1 0), (3, .d (.int .i64 e)), (4, .d (.int .u64 u))] [(1, .box 26 [.d (slT enc_api_Decl [(⟨3, 0, 1⟩ : T_api_Decl)]), .d (slT enc_sl_sl_api_Need []), .d (slT enc_api_Func [(⟨0, 0, [(⟨29, 0, 0⟩ : T_api_Ins), (⟨21, 0, 0⟩ : T_api_Ins)]⟩ : T_api_Func)])])] a' w' → Q .normal a' w') : (partOf 4 (bodyOf Tryd.f6)).wp Tryd.prog Q a w := by
 obtain ⟨g1, g2, F, N, gm, ge⟩ := hr
 have hN : N.β 1 = n + 3 := (gm.named 1 rfl).1.trans hn
 have ag : ∀ b, b < n + 4 → w.heap[b]? = wK.heap[b]? := fun b hb => gm.agree b tv (by rw [hKz]; exact hb)
 have hW : Made n 22 w := ⟨(ag _ (by omega)).trans hK.c0, (ag _ (by omega)).trans hK.c1, (ag _ (by omega)).trans hK.c2, (ag _ (by omega)).trans hK.c3⟩
 have v1 : a.eval (.tmp 1) = .pointer (some ⟨n + 3, 0, none⟩) := by
  have := (ge.slot 1).ptr_inv
  rw [hN] at this
  exact this
 have c3 : w.cell? ⟨n + 3, 2, none⟩ = some (.slice (some ⟨n + 2, 0, none⟩) 1 1) := by simp [World.cell?, hW.c3]
 have c2 : w.cell? ⟨n + 2, 2, none⟩ = some (.slice (some ⟨n + 1, 0, none⟩) 2 2) := by simp [World.cell?, hW.c2]
 have b24 : oneB Tryd.prog 24 = true := by kernel_rfl
 have b42 : oneB Tryd.prog 42 = true := by kernel_rfl
 refine wp_region_lit ?_
 refine raw_val (v := .pointer (some ⟨n + 3, 2, none⟩)) (w' := w) 22 rfl rfl (by
  unfold execOp
  simp only [v1]
  kernel_rfl) ?_
 generalize ha1 : a.put (some 22) _ = a1
 have s1 : a1.tmps.size = 54 := by rw [← ha1, put_size]; exact g2
 have e22 : a1.eval (.tmp 22) = .pointer (some ⟨n + 3, 2, none⟩) := by rw [← ha1]; exact ev_same (by rw [show a.tmps.size = 54 from g2]; decide)
 have o1 : a1.defers = a.defers ∧ a1.eval (.tmp 1) = a.eval (.tmp 1) ∧ a1.eval (.tmp 3) = a.eval (.tmp 3) ∧ a1.eval (.tmp 4) = a.eval (.tmp 4) := by rw [← ha1]; exact ⟨put_defers, ev_ne (by decide), ev_ne (by decide), ev_ne (by decide)⟩
 refine raw_val (v := .slice (some ⟨n + 2, 0, none⟩) 1 1) (w' := w) 23 rfl rfl (by
  unfold execOp
  simp only [e22]
  simp [Instr.loadAt, Instr.sureAddr, run_loadVar_one b24 c3]) ?_
 generalize ha2 : a1.put (some 23) _ = a2
 have s2 : a2.tmps.size = 54 := by rw [← ha2, put_size, s1]
 have e23 : a2.eval (.tmp 23) = .slice (some ⟨n + 2, 0, none⟩) 1 1 := by rw [← ha2]; exact ev_same (by omega)
 have o2 : a2.defers = a.defers ∧ a2.eval (.tmp 1) = a.eval (.tmp 1) ∧ a2.eval (.tmp 3) = a.eval (.tmp 3) ∧ a2.eval (.tmp 4) = a.eval (.tmp 4) := by rw [← ha2]; exact ⟨put_defers.trans o1.1, (ev_ne (by decide)).trans o1.2.1, (ev_ne (by decide)).trans o1.2.2.1, (ev_ne (by decide)).trans o1.2.2.2⟩
 refine raw_val (v := .pointer (some ⟨n + 2, 0, none⟩)) (w' := w) 24 rfl rfl (by
  unfold execOp
  simp only [e23]
  kernel_rfl) ?_
 generalize ha3 : a2.put (some 24) _ = a3
 have s3 : a3.tmps.size = 54 := by rw [← ha3, put_size, s2]
 have e24 : a3.eval (.tmp 24) = .pointer (some ⟨n + 2, 0, none⟩) := by rw [← ha3]; exact ev_same (by omega)
 have o3 : a3.defers = a.defers ∧ a3.eval (.tmp 1) = a.eval (.tmp 1) ∧ a3.eval (.tmp 3) = a.eval (.tmp 3) ∧ a3.eval (.tmp 4) = a.eval (.tmp 4) := by rw [← ha3]; exact ⟨put_defers.trans o2.1, (ev_ne (by decide)).trans o2.2.1, (ev_ne (by decide)).trans o2.2.2.1, (ev_ne (by decide)).trans o2.2.2.2⟩
 refine raw_val (v := .pointer (some ⟨n + 2, 2, none⟩)) (w' := w) 25 rfl rfl (by
  unfold execOp
  simp only [e24]
  kernel_rfl) ?_
 generalize ha4 : a3.put (some 25) _ = a4
 have s4 : a4.tmps.size = 54 := by rw [← ha4, put_size, s3]
 have e25 : a4.eval (.tmp 25) = .pointer (some ⟨n + 2, 2, none⟩) := by rw [← ha4]; exact ev_same (by omega)
 have o4 : a4.defers = a.defers ∧ a4.eval (.tmp 1) = a.eval (.tmp 1) ∧ a4.eval (.tmp 3) = a.eval (.tmp 3) ∧ a4.eval (.tmp 4) = a.eval (.tmp 4) := by rw [← ha4]; exact ⟨put_defers.trans o3.1, (ev_ne (by decide)).trans o3.2.1, (ev_ne (by decide)).trans o3.2.2.1, (ev_ne (by decide)).trans o3.2.2.2⟩
 refine raw_val (v := .slice (some ⟨n + 1, 0, none⟩) 2 2) (w' := w) 26 rfl rfl (by
  unfold execOp
  simp only [e25]
  simp [Instr.loadAt, Instr.sureAddr, run_loadVar_one b42 c2]) ?_
 generalize ha5 : a4.put (some 26) _ = a5
 have s5 : a5.tmps.size = 54 := by rw [← ha5, put_size, s4]
 have e26 : a5.eval (.tmp 26) = .slice (some ⟨n + 1, 0, none⟩) 2 2 := by rw [← ha5]; exact ev_same (by omega)
 have o5 : a5.defers = a.defers ∧ a5.eval (.tmp 1) = a.eval (.tmp 1) ∧ a5.eval (.tmp 3) = a.eval (.tmp 3) ∧ a5.eval (.tmp 4) = a.eval (.tmp 4) := by rw [← ha5]; exact ⟨put_defers.trans o4.1, (ev_ne (by decide)).trans o4.2.1, (ev_ne (by decide)).trans o4.2.2.1, (ev_ne (by decide)).trans o4.2.2.2⟩
 refine raw_val (v := .agg #[.int .i64 29, .int .i64 0, .int .i64 0]) (w' := w) 27 rfl rfl (by kernel_rfl) ?_
 generalize ha6 : a5.put (some 27) _ = a6
 have s6 : a6.tmps.size = 54 := by rw [← ha6, put_size, s5]
 have e27 : a6.eval (.tmp 27) = .agg #[.int .i64 29, .int .i64 0, .int .i64 0] := by rw [← ha6]; exact ev_same (by omega)
 have f26 : a6.eval (.tmp 26) = .slice (some ⟨n + 1, 0, none⟩) 2 2 := by rw [← ha6, ev_ne (by decide)]; exact e26
 have o6 : a6.defers = a.defers ∧ a6.eval (.tmp 1) = a.eval (.tmp 1) ∧ a6.eval (.tmp 3) = a.eval (.tmp 3) ∧ a6.eval (.tmp 4) = a.eval (.tmp 4) := by rw [← ha6]; exact ⟨put_defers.trans o5.1, (ev_ne (by decide)).trans o5.2.1, (ev_ne (by decide)).trans o5.2.2.1, (ev_ne (by decide)).trans o5.2.2.2⟩
 refine raw_val (v := .pointer (some ⟨n + 1, 0, none⟩)) (w' := w) 28 rfl rfl (by
  unfold execOp
  simp only [f26]
  kernel_rfl) ?_
 generalize ha7 : a6.put (some 28) _ = a7
 have s7 : a7.tmps.size = 54 := by rw [← ha7, put_size, s6]
 have e28 : a7.eval (.tmp 28) = .pointer (some ⟨n + 1, 0, none⟩) := by rw [← ha7]; exact ev_same (by omega)
 have f27 : a7.eval (.tmp 27) = .agg #[.int .i64 29, .int .i64 0, .int .i64 0] := by rw [← ha7, ev_ne (by decide)]; exact e27
 have o7 : a7.defers = a.defers ∧ a7.eval (.tmp 1) = a.eval (.tmp 1) ∧ a7.eval (.tmp 3) = a.eval (.tmp 3) ∧ a7.eval (.tmp 4) = a.eval (.tmp 4) := by rw [← ha7]; exact ⟨put_defers.trans o6.1, (ev_ne (by decide)).trans o6.2.1, (ev_ne (by decide)).trans o6.2.2.1, (ev_ne (by decide)).trans o6.2.2.2⟩
 obtain ⟨w4, r1, r2, r3, r4, r5, r6, r7⟩ := setCells_heap (P := Tryd.prog) (n + 1) 46 [.int .i64 29, .int .i64 0, .int .i64 0] 0 0 _ w hW.c1 (by simp) (by intro u hu; simp at hu; rcases hu with rfl | rfl <;> rfl)
 have hsz : ∀ W : World, (Go.sizeOf 46).run Tryd.prog W = .ok 3 W := fun W => by kernel_rfl
 refine raw_skip (w' := w4) rfl rfl (by
  unfold execOp
  simp only [e28, f27]
  simp [Instr.storeAt, Instr.sureAddr, storeVar, hsz, Value.cells, r1]) (wpList_nil ?_)
 have hW4 : Made n 29 w4 := ⟨(r7 _ (by omega)).trans hW.c0, by simpa using r2, (r7 _ (by omega)).trans hW.c2, (r7 _ (by omega)).trans hW.c3⟩
 obtain ⟨q1, q2, q3⟩ := made_rep (F := F) hW4 (gm.F0 _ f0) (gm.F0 _ f1) (gm.F0 _ f2)
 have get1 : ∀ (k : Nat) (o : AObj), Mem.get [(1, .box 26 [.d (slT enc_api_Decl [(⟨3, 0, 1⟩ : T_api_Decl)]), .d (slT enc_sl_sl_api_Need []), .d (slT enc_api_Func [(⟨0, 0, [(⟨29, 0, 0⟩ : T_api_Ins), (⟨21, 0, 0⟩ : T_api_Ins)]⟩ : T_api_Func)])])] k = some o → k = 1 ∧ o = .box 26 [.d (slT enc_api_Decl [(⟨3, 0, 1⟩ : T_api_Decl)]), .d (slT enc_sl_sl_api_Need []), .d (slT enc_api_Func [(⟨0, 0, [(⟨29, 0, 0⟩ : T_api_Ins), (⟨21, 0, 0⟩ : T_api_Ins)]⟩ : T_api_Func)])] := fun k o hk => by
  simp only [Mem.get] at hk
  cases e : Nat.beq 1 k with
  | true => rw [e] at hk; simp only [cond_true, Option.some.injEq] at hk; exact ⟨(Nat.eq_of_beq_eq_true e).symm, hk.symm⟩
  | false => rw [e] at hk; cases hk
 refine h a7 w4 ⟨o7.1.trans g1, s7, F, N, ⟨fun b hb => gm.F0 b (hF0 b hb), fun b hb => ?_, fun b hb => by rw [r6]; exact gm.Fin b hb, r3.trans gm.os, r4.trans gm.tape, r5.trans gm.output, by rw [r6]; exact gm.size, fun b hb hS => (r7 b (by have : b < w0.heap.size := hb; omega)).trans (gm.kept b hb hS), fun k o hk => ?_, fun k o b hk hb => ?_, fun k k' o o' b hk1 hk2 _ _ => ?_, fun k hk => (by cases hk), fun b hb => hb.elim, fun k o b hk _ hb => hb.elim, by rw [r6]; exact gm.size⟩, ⟨fun t => ?_, ?_⟩⟩
 ·rcases gm.Fnew b hb with h1 | h1
  ·exact hFn b h1
  ·exact .inr h1
 ·obtain ⟨rfl, rfl⟩ := get1 k o hk
  refine ⟨[.slice (some ⟨n, 0, none⟩) 1 1, .slice none 0 0, .slice (some ⟨n + 2, 0, none⟩) 1 1], by rw [hN]; exact hW4.c3, rfl, fun i v p hv hp => ?_⟩
  have hi : i = 0 ∨ i = 1 ∨ i = 2 ∨ 3 ≤ i := by omega
  rcases hi with rfl | rfl | rfl | hi
  ·cases hv; cases hp; exact .d q1
  ·cases hv; cases hp; exact .d q2
  ·cases hv; cases hp; exact .d q3
  ·rw [List.getElem?_eq_none (by simpa using hi)] at hv; cases hv
 ·obtain ⟨rfl, rfl⟩ := get1 k o hk
  have := gm.free 1 (.box 26 cs) b rfl hb
  exact this
 ·rw [(get1 k o hk1).1, (get1 k' o' hk2).1]
 ·simp only [Env.get]
  cases k1 : Nat.beq 1 t with
  | true =>
   rw [← Nat.eq_of_beq_eq_true k1]
   show Rep F N w4 (a7.eval (.tmp 1)) _
   rw [o7.2.1, v1, ← hN]
   exact .ptr
  | false =>
   cases k3 : Nat.beq 3 t with
   | true =>
    rw [← Nat.eq_of_beq_eq_true k3]
    show Rep F N w4 (a7.eval (.tmp 3)) _
    rw [o7.2.2.1, show a.eval (.tmp 3) = .int .i64 e from (ge.slot 3).d_inv.int_inv]
    exact .d .int
   | false =>
    cases k4 : Nat.beq 4 t with
    | true =>
     rw [← Nat.eq_of_beq_eq_true k4]
     show Rep F N w4 (a7.eval (.tmp 4)) _
     rw [o7.2.2.2, show a.eval (.tmp 4) = .int .u64 u from (ge.slot 4).d_inv.int_inv]
     exact .d .int
    | false => exact .und
 ·obtain ⟨Fi, hFi, hG⟩ := hg
  exact hG.mono (fun b hb => gm.F0 b (hFi b hb).2) (fun b hb => by
   have := (hFi b hb).1
   exact (r7 b (by omega)).trans (ag b (by omega)))

theorem lives_R2 {e : Int} (H : ((verify_Program (⟨[(⟨3, 0, 1⟩ : T_api_Decl)], [], [(⟨0, 0, [(⟨22, 0, 0⟩ : T_api_Ins), (⟨21, 0, 0⟩ : T_api_Ins)]⟩ : T_api_Func)]⟩ : T_api_Program)).bind fun (x1 : T_verify_Where × Int) => some x1.2) = some e) (w0 wK : World) (F0 S0 : Nat → Prop) (B0 : Names) : WC { w0 := w0, F0 := F0, S0 := S0, ntmps := 54, P0 := [1], B0 := B0, K := fun _ => True, wK := wK, KN := [1] } Tryd.prog (partOf 2 (bodyOf Tryd.f6)) (fun x E m => x = .normal ∧ LessW E m [(1, .ptr 1 0), (3, .d (.int .i64 e))] [(1, .box 26 [.d (slT enc_api_Decl [(⟨3, 0, 1⟩ : T_api_Decl)]), .d (slT enc_sl_sl_api_Need []), .d (slT enc_api_Func [(⟨0, 0, [(⟨22, 0, 0⟩ : T_api_Ins), (⟨21, 0, 0⟩ : T_api_Ins)]⟩ : T_api_Func)])])]) [(1, .ptr 1 0)] [(1, .box 26 [.d (slT enc_api_Decl [(⟨3, 0, 1⟩ : T_api_Decl)]), .d (slT enc_sl_sl_api_Need []), .d (slT enc_api_Func [(⟨0, 0, [(⟨22, 0, 0⟩ : T_api_Ins), (⟨21, 0, 0⟩ : T_api_Ins)]⟩ : T_api_Func)])])] := by
 refine Wg (Wr 1 tk sg0 rfl rfl tv ?_)
 obtain ⟨x1, hx1, H⟩ := of_bind H
 refine Wf [] (verify_Program_0 _ hx1) verify_Program_f rfl rfl tv rfl rfl rfl (Wr 3 tk sg0 rfl rfl tv (Wa 102 tk rfl rfl rfl (We 0 tk ek eg0 rfl rfl rfl tv (Wr 1 tk sg0 rfl rfl tv (Wn ?_)))))
 cases H
 exact ⟨rfl, LessW.mk' ⟨Ao rfl, Ao rfl, tv⟩ ⟨rfl, tv⟩⟩
theorem lives_R3 (e : Int) {u : Int} (H : ((verify_Uses (⟨[(⟨3, 0, 1⟩ : T_api_Decl)], [], [(⟨0, 0, [(⟨22, 0, 0⟩ : T_api_Ins), (⟨21, 0, 0⟩ : T_api_Ins)]⟩ : T_api_Func)]⟩ : T_api_Program) 0).bind fun (x1 : Int) => some x1) = some u) (w0 wK : World) (F0 S0 : Nat → Prop) (B0 : Names) : WC { w0 := w0, F0 := F0, S0 := S0, ntmps := 54, P0 := [1], B0 := B0, K := fun _ => True, wK := wK, KN := [1] } Tryd.prog (partOf 3 (bodyOf Tryd.f6)) (fun x E m => x = .normal ∧ LessW E m [(1, .ptr 1 0), (3, .d (.int .i64 e)), (4, .d (.int .u64 u))] [(1, .box 26 [.d (slT enc_api_Decl [(⟨3, 0, 1⟩ : T_api_Decl)]), .d (slT enc_sl_sl_api_Need []), .d (slT enc_api_Func [(⟨0, 0, [(⟨22, 0, 0⟩ : T_api_Ins), (⟨21, 0, 0⟩ : T_api_Ins)]⟩ : T_api_Func)])])]) [(1, .ptr 1 0), (3, .d (.int .i64 e))] [(1, .box 26 [.d (slT enc_api_Decl [(⟨3, 0, 1⟩ : T_api_Decl)]), .d (slT enc_sl_sl_api_Need []), .d (slT enc_api_Func [(⟨0, 0, [(⟨22, 0, 0⟩ : T_api_Ins), (⟨21, 0, 0⟩ : T_api_Ins)]⟩ : T_api_Func)])])] := by
 refine Wg (Wr 1 tk sg0 rfl rfl tv ?_)
 obtain ⟨x1, hx1, H⟩ := of_bind H
 refine Wf [] (verify_Uses_0 _ _ hx1) verify_Uses_f rfl rfl tv rfl rfl rfl (Wr 1 tk sg0 rfl rfl tv (Wn ?_))
 cases H
 exact ⟨rfl, LessW.mk' ⟨Ao rfl, Ao rfl, Ao rfl, tv⟩ ⟨rfl, tv⟩⟩
theorem lives_T {e u : Int} {r : Bool} (H : law12_lives_b e u = some r) (w0 : World) (F0 S0 : Nat → Prop) (B0 : Names) : WC { w0 := w0, F0 := F0, S0 := S0, ntmps := 54, P0 := [], B0 := B0 } Tryd.prog (restOf 5 (bodyOf Tryd.f6)) (LJ.Ends Tryd.prog Tryd.f6 (.d (.bool r)) []) [(1, .ptr 1 0), (3, .d (.int .i64 e)), (4, .d (.int .u64 u))] [(1, .box 26 [.d (slT enc_api_Decl [(⟨3, 0, 1⟩ : T_api_Decl)]), .d (slT enc_sl_sl_api_Need []), .d (slT enc_api_Func [(⟨0, 0, [(⟨29, 0, 0⟩ : T_api_Ins), (⟨21, 0, 0⟩ : T_api_Ins)]⟩ : T_api_Func)])])] := by
 unfold law12_lives_b at H
 refine Ws (Wg (Wr 1 tk sg0 rfl rfl tv ?_))
 obtain ⟨x1, hx1, H⟩ := of_bind H
 refine Wf [] (verify_Program_0 _ hx1) verify_Program_f rfl rfl tv rfl rfl rfl (Wr 3 tk sg0 rfl rfl tv (Wa 105 tk rfl rfl rfl (We 0 tk ek eg0 rfl rfl rfl tv (Wr 1 tk sg0 rfl rfl tv (Wn (Qn (Ws (Wg (Wr 3 tk sg0 rfl rfl tv (Wx 2 2 true tk sg0 rfl rfl (fun _ => tv) (Wr 2 tk sg0 rfl rfl ⟨by first | exact id | exact fun h => by rw [h]; rfl | simp_all, tv⟩ (WL.split (g := 40) rfl (fun h2 => ?_) (fun h2 => ?_)))))))))))))
 ·replace H := of_t H h2
  refine WL.grun 2 6 true 40 tk sg0 rfl rfl rfl rfl tv (WL.gyv (LJ.Y.structEq .eql (.inl rfl) rfl rfl rfl (by kernel_rfl) rfl) rfl rfl rfl rfl rfl rfl (WL.pickT rfl rfl rfl rfl rfl rfl (Wr 1 tk sg0 rfl rfl tv (Wx 2 11 true tk sg0 rfl rfl (fun _ => tv) (Wr 2 tk sg0 rfl rfl ⟨by first | exact id | exact fun h => by rw [h]; rfl | simp_all, tv⟩ ?_)))))
  obtain ⟨x3, hx3, H⟩ := of_bind H
  refine Wx 3 15 true tk [PSig.at' verify_Uses_f ((((iEq x1.1.Fn 0) && ((iEq x1.1.Pc 0) && true)) && (iEq u 0)) = true) rfl (fun hb => verify_Uses_0 _ _ (of_t hx3 hb))] rfl rfl (fun hb => ⟨⟨hb, rfl⟩, tv⟩) (Wr 2 tk sg0 rfl rfl ⟨by first | exact id | exact fun h => by rw [h]; rfl | simp_all, tv⟩ (Wn (Qn (Wt ?_))))
  cases H
  exact Ea rfl rfl rfl tv
 ·replace H := of_f H h2
  refine WL.gskips 3 6 true 40 rfl rfl rfl rfl (WL.pickF rfl rfl rfl rfl rfl rfl (Wr 1 tk sg0 rfl rfl tv (WL.gskips 2 11 true 45 rfl rfl rfl rfl (WL.pickF rfl rfl rfl rfl rfl rfl (Wr 1 tk sg0 rfl rfl tv (WL.gskips 3 15 true 49 rfl rfl rfl rfl (WL.pickF rfl rfl rfl rfl rfl rfl (Wr 1 tk sg0 rfl rfl tv (Wn (Qn (Wt ?_)))))))))))
  cases H
  exact Ea rfl rfl rfl tv
theorem lessW_rel {c : Ctx} {E E' : Env} {m m' : Mem} {a : Act} {w : World} (hl : LessW E m E' m') (h : Rel c E m a w) : Rel c E' m' a w := Less.rel ⟨fun t => .inr rfl, hl.mem⟩ (h.weaker fun F N v t => hl.env t F N w v)
theorem law12_lives_0 {r : Bool} (H : law12_lives = some r) : LJ.Spec Tryd.prog 6 [] [] (.d (.bool r)) [] := by
 unfold law12_lives at H
 obtain ⟨e, h2, H⟩ := of_bind H
 obtain ⟨u, h3, H⟩ := of_bind H
 refine LJ.Spec.code Tryd.func6 rfl 54 rfl rfl [] rfl fun w0 F0 S0 B0 => (Ws (Wg (Wr 1 tk sg0 rfl rfl tv (Wn (Qn ?_)))))
 intro a w hr
 refine wp_seq (lives_r1 hr.2.1 fun a1 w1 k1 k2 k3 k4 k5 k6 k7 k8 k9 => ?_)
 obtain ⟨F1, N1, p1, p2, p3, p4, p5, p6, p7, p8, hr1⟩ := lives_start hr k1 k2 k3 k4 k5 k6 k7 k8 k9
 refine wp_seq (wp_mono (lives_R2 h2 w0 w1 F1 S0 N1 a1 w1 hr1) ?_)
 rintro x a2 w2 ⟨E, m, ⟨rfl, hl⟩, hr2⟩
 refine wp_seq (wp_mono (lives_R3 e h3 w0 w1 F1 S0 N1 a2 w2 (lessW_rel hl hr2)) ?_)
 rintro x a3 w3 ⟨E, m, ⟨rfl, hl⟩, hr3⟩
 refine wp_seq (lives_poke (B0 := B0) p1 p2 p3 p4 p5 p6 p7 p8 k4 k5 (lessW_rel hl hr3) fun a4 w4 hr4 => ?_)
 exact lives_T H w0 F0 S0 B0 a4 w4 hr4
theorem law12_lives_f : hasFunc Tryd.prog 6 Tryd.f6 := ⟨Tryd.func6, rfl, by kernel_rfl⟩

theorem law09_Own_0 (a0 : List (List T_api_Need)) {r : List (List T_api_Need)} (H : law09_Own a0 = some r) : LJ.Spec Tryd.prog 21 [.d (slT enc_sl_api_Need a0)] [] (.d (slT enc_sl_api_Need r)) [] := by
 refine LJ.Spec.code Tryd.func21 rfl 33 rfl rfl [] rfl fun w0 F0 S0 B0 => ?_
 unfold law09_Own at H
 refine Ws (Wg (Wr 1 tk sg0 rfl rfl tv (Wn (Qn (Ws (Wg (We 106 tk ek eg0 rfl rfl rfl tv (Wr 1 tk sg0 rfl rfl tv (Wn (Qn (Ws (Ws (Wg (Wr 1 tk sg0 rfl rfl tv (Wn (Qn (Wb (Wl (ι := {x : Nat × (Int × (List (List T_api_Need))) // law09_Own_l2 a0 x.1 x.2 = some r}) (fun x => [(0, .d (slT enc_sl_api_Need a0)), (3, .own 106), (4, .d (.int .i64 x.1.2.1))]) (fun x => [(106, .row 67 1 (x.1.2.2.map enc_sl_api_Need))]) (fun x => x.1.1) ⟨(fuel, (0, ([] : List (List T_api_Need)))), H⟩ (Less.mk' ⟨rfl, rfl, rfl, tv⟩ ⟨rfl, tv⟩) fun x => ?_))))))))))))))))))
 obtain ⟨⟨k2, s1⟩, H⟩ := x
 rcases k2 with _ | k2
 ·exact of_none H
 rw [law09_Own_l2] at H
 refine Ws (Ws (Wg (Wr 5 tk sg0 rfl rfl tv (Wx 2 4 true tk sg0 rfl rfl (fun _ => tv) (Wr 1 tk sg0 rfl rfl ⟨by first | exact id | exact fun h => by rw [h]; rfl | simp_all, tv⟩ (Wn (Qn (Wc rfl (fun h3 => ?_) (fun h3 => ?_)))))))))
 ·replace H := of_t H h3
  refine Wk (Qn (Ws (Wb (Ws (Wg ?_)))))
  obtain ⟨g4, H⟩ := of_need H
  refine Wr 5 tk sg0 rfl rfl ⟨⟨(nIn_ok g4).1, (nIn_ok g4).2, rfl⟩, tv⟩ (Wn (Qn (Ws (Ws (Wg (Wr 3 tk sg0 rfl rfl tv (Wn (Qn (Wc rfl (fun h5 => ?_) (fun h5 => ?_))))))))))
  ·replace H := of_t H h5
   refine Wg (Wr 1 tk sg0 rfl rfl tv ?_)
   obtain ⟨g6, H⟩ := of_need H
   refine WL.yv (LJ.Y.sliceT enc_api_Need (a0.getD s1.1.toNat default) tk rfl (fun _ => rfl) none (some (.const (.int .i64 6))) (0 : Int) (6 : Int) rfl rfl ⟨_, rfl⟩ rfl rfl (nSl_ok g6)) rfl rfl rfl (Wr 1 tk sg0 rfl rfl tv (Wn (Qn (Wg (Wr 1 tk sg0 rfl rfl tv (We 127 tk ek eg0 rfl rfl rfl tv (Wr 1 tk sg0 rfl rfl tv (WL.row 127 (([] : List T_api_Need).map enc_api_Need) rfl rfl rfl ?_))))))))
   obtain ⟨g7, H⟩ := of_need H
   refine WL.appT enc_api_Need ([] : List T_api_Need) (((a0.getD s1.1.toNat default).take (6 : Int).toNat).drop (0 : Int).toNat) tk ek rfl rfl (fun _ => rfl) (fun _ => rfl) rfl rfl rfl rfl (nCap_ok g7) rfl rfl rfl rfl rfl ?_
   refine WL.freezeT 127 enc_api_Need (([] : List T_api_Need) ++ (((a0.getD s1.1.toNat default).take (6 : Int).toNat).drop (0 : Int).toNat)) rfl rfl rfl rfl (We 130 tk ek eg0 rfl rfl rfl tv (WL.freezeT 130 enc_sl_api_Need ([([] : List T_api_Need) ++ (((a0.getD s1.1.toNat default).take (6 : Int).toNat).drop (0 : Int).toNat)] : List (List T_api_Need)) rfl rfl rfl rfl ?_))
   obtain ⟨g8, H⟩ := of_need H
   refine WL.appT enc_sl_api_Need s1.2 ([([] : List T_api_Need) ++ (((a0.getD s1.1.toNat default).take (6 : Int).toNat).drop (0 : Int).toNat)] : List (List T_api_Need)) tk ek rfl rfl (fun _ => rfl) (fun _ => rfl) rfl rfl rfl rfl (nCap_ok g8) rfl rfl rfl rfl rfl ?_
   refine Wr 1 tk sg0 rfl rfl tv (Wn (Qb (Qn ?_)))
   exact Wg (Wr 3 tk sg0 rfl rfl tv (Wn (Qn (⟨⟨(k2, (IntKind.i64.wrap (s1.1 + 1), s1.2 ++ ([([] : List T_api_Need) ++ (((a0.getD s1.1.toNat default).take (6 : Int).toNat).drop (0 : Int).toNat)] : List (List T_api_Need)))), H⟩, Nat.lt_succ_self _, Less.mk' ⟨rfl, rfl, rfl, tv⟩ ⟨rfl, tv⟩⟩))))
  replace H := of_f H h5
  refine Wk (Qn (Wg (Wr 1 tk sg0 rfl rfl tv (We 127 tk ek eg0 rfl rfl rfl tv (Wr 1 tk sg0 rfl rfl tv (WL.row 127 (([] : List T_api_Need).map enc_api_Need) rfl rfl rfl ?_))))))
  obtain ⟨g9, H⟩ := of_need H
  refine WL.appT enc_api_Need ([] : List T_api_Need) (a0.getD s1.1.toNat default) tk ek rfl rfl (fun _ => rfl) (fun _ => rfl) rfl rfl rfl rfl (nCap_ok g9) rfl rfl rfl rfl rfl ?_
  refine WL.freezeT 127 enc_api_Need (([] : List T_api_Need) ++ (a0.getD s1.1.toNat default)) rfl rfl rfl rfl (We 130 tk ek eg0 rfl rfl rfl tv (WL.freezeT 130 enc_sl_api_Need ([([] : List T_api_Need) ++ (a0.getD s1.1.toNat default)] : List (List T_api_Need)) rfl rfl rfl rfl ?_))
  obtain ⟨g10, H⟩ := of_need H
  refine WL.appT enc_sl_api_Need s1.2 ([([] : List T_api_Need) ++ (a0.getD s1.1.toNat default)] : List (List T_api_Need)) tk ek rfl rfl (fun _ => rfl) (fun _ => rfl) rfl rfl rfl rfl (nCap_ok g10) rfl rfl rfl rfl rfl ?_
  refine Wr 1 tk sg0 rfl rfl tv (Wn (Qb (Qn ?_)))
  exact Wg (Wr 3 tk sg0 rfl rfl tv (Wn (Qn (⟨⟨(k2, (IntKind.i64.wrap (s1.1 + 1), s1.2 ++ ([([] : List T_api_Need) ++ (a0.getD s1.1.toNat default)] : List (List T_api_Need)))), H⟩, Nat.lt_succ_self _, Less.mk' ⟨rfl, rfl, rfl, tv⟩ ⟨rfl, tv⟩⟩))))
 replace H := of_f H h3
 refine WC.exit (Qx (Qx (Qh (Qn ?_))))
 refine Ws (Wg (Wr 2 tk sg0 rfl rfl tv (Wn (Qn (WC.freezeT 106 enc_sl_api_Need s1.2 rfl rfl rfl rfl (Wt ?_))))))
 cases H
 exact Ea rfl rfl rfl tv
theorem law09_Own_f : hasFunc Tryd.prog 21 Tryd.f21 := ⟨Tryd.func21, rfl, by kernel_rfl⟩

theorem law10_Own_0 (a0 : T_api_Program) {r : T_api_Program} (H : law10_Own a0 = some r) : LJ.Spec Tryd.prog 8 [.d (.agg [slT enc_api_Decl a0.Decls, slT enc_sl_sl_api_Need a0.Waits, slT enc_api_Func a0.Funcs])] [] (.d (.agg [slT enc_api_Decl r.Decls, slT enc_sl_sl_api_Need r.Waits, slT enc_api_Func r.Funcs])) [] := by
 refine LJ.Spec.code Tryd.func8 rfl 113 rfl rfl [] rfl fun w0 F0 S0 B0 => ?_
 unfold law10_Own at H
 refine Ws (Wg (We 101 tk ek eg0 rfl rfl rfl tv (Wa 102 tk rfl rfl rfl (Wn (Qn (Ws (Wg (Wr 1 tk sg0 rfl rfl tv (Wa 103 tk rfl rfl rfl (We 0 tk ek eg0 rfl rfl rfl tv (Wn (Qn (Ws (Ws (Wg (Wr 1 tk sg0 rfl rfl tv (Wn (Qn (Wb (WC.nilF 103 0 1022 48 3 rfl (Wl (ι := {x : Nat × (Int × (List T_api_Decl)) // law10_Own_l3 a0 x.1 x.2 = some r}) (fun x => [(1, .ptr 101 0), (2, .ptr 102 0), (3, .ptr 103 0), (4, .d (.int .i64 x.1.2.1))]) (fun x => [(101, .box 26 [.d (slT enc_api_Decl a0.Decls), .d (slT enc_sl_sl_api_Need a0.Waits), .d (slT enc_api_Func a0.Funcs)]), (102, .box 26 [.d (.nils), .d (.nils), .d (.nils)]), (103, .box 26 [.own 1022, .d (.nils), .d (.nils)]), (1022, .row 48 3 (x.1.2.2.map enc_api_Decl))]) (fun x => x.1.1) ⟨(fuel, (0, ([] : List T_api_Decl))), H⟩ (Less.mk' ⟨rfl, rfl, rfl, rfl, tv⟩ ⟨rfl, rfl, rfl, rfl, tv⟩) fun x => ?_)))))))))))))))))))))
 obtain ⟨⟨k3, s2⟩, H⟩ := x
 rcases k3 with _ | k3
 ·exact of_none H
 rw [law10_Own_l3] at H
 refine Ws (Ws (Wg (Wr 6 tk sg0 rfl rfl tv (Wx 2 5 true tk sg0 rfl rfl (fun _ => tv) (Wr 1 tk sg0 rfl rfl ⟨by first | exact id | exact fun h => by rw [h]; rfl | simp_all, tv⟩ (Wn (Qn (Wc rfl (fun h4 => ?_) (fun h4 => ?_)))))))))
 ·replace H := of_t H h4
  refine Wk (Qn (Ws (Wb ?_)))
  obtain ⟨g5_5_1, H⟩ := of_need H
  obtain ⟨g5_8_1, H⟩ := of_need H
  refine WC.heldF [(1, .ptr 101 0), (2, .ptr 102 0), (3, .ptr 103 0), (4, .d (.int .i64 s2.1))] [(101, .box 26 [.d (slT enc_api_Decl a0.Decls), .d (slT enc_sl_sl_api_Need a0.Waits), .d (slT enc_api_Func a0.Funcs)]), (102, .box 26 [.d (.nils), .d (.nils), .d (.nils)]), (103, .box 26 [.own 1022, .d (.nils), .d (.nils)]), (1022, .row 48 3 ((s2.2 ++ ([(a0.Decls.getD s2.1.toNat default)] : List T_api_Decl)).map enc_api_Decl))] (.one 0 true (.one 2 true (.one 3 true (.one 4 true (.one 5 true (.one 6 true (.fork (.one 1 false (.one 7 false (.one 8 false (.one 9 true (.one 10 false .done))))) (.one 7 false (.one 1 false (.one 8 false (.one 9 true (.one 10 false .done)))))))))))) [101, 102, 103] [101, 102] rfl (by kernel_rfl) rfl (by kernel_rfl) rfl rfl (fun _ h => h) rfl rfl rfl (fun FK NK wK K => ?_) ?_
  ·refine Hr 6 tk rfl rfl rfl rfl ⟨⟨(nIn_ok g5_5_1).1, (nIn_ok g5_5_1).2, rfl⟩, tv⟩ (WH.fork ?_ ?_)
   ·refine WH.val tk rfl rfl rfl rfl rfl tv rfl rfl (He 128 tk ek rfl rfl rfl rfl tv rfl rfl (WH.freezeT 128 enc_api_Decl ([(a0.Decls.getD s2.1.toNat default)] : List T_api_Decl) rfl rfl rfl rfl (WH.appT enc_api_Decl s2.2 ([(a0.Decls.getD s2.1.toNat default)] : List T_api_Decl) tk ek rfl rfl (fun _ => rfl) (fun _ => rfl) rfl rfl rfl rfl rfl (nCap_ok g5_8_1) rfl rfl rfl rfl rfl rfl rfl ?_)))
    exact Hr 1 tk rfl rfl rfl rfl tv (He 0 tk ek rfl rfl rfl rfl tv rfl rfl (Hn rfl (LessW.mk' ⟨Ao rfl, Ao rfl, Ao rfl, Ao rfl, tv⟩ ⟨rfl, rfl, rfl, rfl, tv⟩)))
   ·refine He 128 tk ek rfl rfl rfl rfl tv rfl rfl (WH.freezeT 128 enc_api_Decl ([(a0.Decls.getD s2.1.toNat default)] : List T_api_Decl) rfl rfl rfl rfl (WH.val tk rfl rfl rfl rfl rfl tv rfl rfl (WH.appT enc_api_Decl s2.2 ([(a0.Decls.getD s2.1.toNat default)] : List T_api_Decl) tk ek rfl rfl (fun _ => rfl) (fun _ => rfl) rfl rfl rfl rfl rfl (nCap_ok g5_8_1) rfl rfl rfl rfl rfl rfl rfl ?_)))
    exact Hr 1 tk rfl rfl rfl rfl tv (He 0 tk ek rfl rfl rfl rfl tv rfl rfl (Hn rfl (LessW.mk' ⟨Ao rfl, Ao rfl, Ao rfl, Ao rfl, tv⟩ ⟨rfl, rfl, rfl, rfl, tv⟩)))
  ·refine Qb (Qn ?_)
   exact Wg (Wr 3 tk sg0 rfl rfl tv (Wn (Qn (⟨⟨(k3, (IntKind.i64.wrap (s2.1 + 1), s2.2 ++ ([(a0.Decls.getD s2.1.toNat default)] : List T_api_Decl))), H⟩, Nat.lt_succ_self _, Less.mk' ⟨rfl, rfl, rfl, rfl, tv⟩ ⟨rfl, rfl, rfl, rfl, tv⟩⟩))))
 replace H := of_f H h4
 refine WC.exit (Qx (Qx (Qh (Qn ?_))))
 refine Ws (Ws (Wg (Wr 1 tk sg0 rfl rfl tv (Wn (Qn (Wb (WC.nilF 103 1 1043 52 1 rfl (Wl (ι := {x : Nat × (Int × (List (List (List T_api_Need)))) // law10_Own_l7 a0 s2 x.1 x.2 = some r}) (fun x => [(1, .ptr 101 0), (2, .ptr 102 0), (3, .ptr 103 0), (5, .d (.int .i64 x.1.2.1))]) (fun x => [(101, .box 26 [.d (slT enc_api_Decl a0.Decls), .d (slT enc_sl_sl_api_Need a0.Waits), .d (slT enc_api_Func a0.Funcs)]), (102, .box 26 [.d (.nils), .d (.nils), .d (.nils)]), (103, .box 26 [.own 1022, .own 1043, .d (.nils)]), (1022, .row 48 3 (s2.2.map enc_api_Decl)), (1043, .row 52 1 (x.1.2.2.map enc_sl_sl_api_Need))]) (fun x => x.1.1) ⟨(fuel, (0, ([] : List (List (List T_api_Need))))), H⟩ (Less.mk' ⟨rfl, rfl, rfl, rfl, tv⟩ ⟨rfl, rfl, rfl, rfl, rfl, tv⟩) fun x => ?_))))))))
 obtain ⟨⟨k7, s6⟩, H⟩ := x
 rcases k7 with _ | k7
 ·exact of_none H
 rw [law10_Own_l7] at H
 refine Ws (Ws (Wg (Wr 6 tk sg0 rfl rfl tv (Wx 2 5 true tk sg0 rfl rfl (fun _ => tv) (Wr 1 tk sg0 rfl rfl ⟨by first | exact id | exact fun h => by rw [h]; rfl | simp_all, tv⟩ (Wn (Qn (Wc rfl (fun h8 => ?_) (fun h8 => ?_)))))))))
 ·replace H := of_t H h8
  refine Wk (Qn (Ws (Wb ?_)))
  obtain ⟨g9_5_1, H⟩ := of_need H
  obtain ⟨x9_7_1, hx9_7_1, H⟩ := of_bind H
  obtain ⟨g9_9_1, H⟩ := of_need H
  refine WC.heldF [(1, .ptr 101 0), (2, .ptr 102 0), (3, .ptr 103 0), (5, .d (.int .i64 s6.1))] [(101, .box 26 [.d (slT enc_api_Decl a0.Decls), .d (slT enc_sl_sl_api_Need a0.Waits), .d (slT enc_api_Func a0.Funcs)]), (102, .box 26 [.d (.nils), .d (.nils), .d (.nils)]), (103, .box 26 [.own 1022, .own 1043, .d (.nils)]), (1022, .row 48 3 (s2.2.map enc_api_Decl)), (1043, .row 52 1 ((s6.2 ++ ([x9_7_1] : List (List (List T_api_Need)))).map enc_sl_sl_api_Need))] (.one 0 true (.one 2 true (.one 3 true (.one 4 true (.one 5 true (.one 6 true (.fork (.one 1 false (.one 7 false (.one 8 false (.one 9 false (.one 10 true (.one 11 false .done)))))) (.one 7 false (.fork (.one 1 false (.one 8 false (.one 9 false (.one 10 true (.one 11 false .done))))) (.one 8 false (.one 1 false (.one 9 false (.one 10 true (.one 11 false .done)))))))))))))) [101, 102, 103] [101, 102] rfl (by kernel_rfl) rfl (by kernel_rfl) rfl rfl (fun _ h => h) rfl rfl rfl (fun FK NK wK K => ?_) ?_
  ·refine Hr 6 tk rfl rfl rfl rfl ⟨⟨(nIn_ok g9_5_1).1, (nIn_ok g9_5_1).2, rfl⟩, tv⟩ (WH.fork ?_ ?_)
   ·refine WH.val tk rfl rfl rfl rfl rfl tv rfl rfl (WH.call [] rfl (law09_Own_0 _ hx9_7_1) law09_Own_f rfl rfl tv rfl rfl rfl rfl rfl (He 150 tk ek rfl rfl rfl rfl tv rfl rfl (WH.freezeT 150 enc_sl_sl_api_Need ([x9_7_1] : List (List (List T_api_Need))) rfl rfl rfl rfl (WH.appT enc_sl_sl_api_Need s6.2 ([x9_7_1] : List (List (List T_api_Need))) tk ek rfl rfl (fun _ => rfl) (fun _ => rfl) rfl rfl rfl rfl rfl (nCap_ok g9_9_1) rfl rfl rfl rfl rfl rfl rfl ?_))))
    exact Hr 1 tk rfl rfl rfl rfl tv (He 0 tk ek rfl rfl rfl rfl tv rfl rfl (Hn rfl (LessW.mk' ⟨Ao rfl, Ao rfl, Ao rfl, Ao rfl, tv⟩ ⟨rfl, rfl, rfl, rfl, rfl, tv⟩)))
   ·refine WH.call [] rfl (law09_Own_0 _ hx9_7_1) law09_Own_f rfl rfl tv rfl rfl rfl rfl rfl (WH.fork ?_ ?_)
    ·refine WH.val tk rfl rfl rfl rfl rfl tv rfl rfl (He 150 tk ek rfl rfl rfl rfl tv rfl rfl (WH.freezeT 150 enc_sl_sl_api_Need ([x9_7_1] : List (List (List T_api_Need))) rfl rfl rfl rfl (WH.appT enc_sl_sl_api_Need s6.2 ([x9_7_1] : List (List (List T_api_Need))) tk ek rfl rfl (fun _ => rfl) (fun _ => rfl) rfl rfl rfl rfl rfl (nCap_ok g9_9_1) rfl rfl rfl rfl rfl rfl rfl ?_)))
     exact Hr 1 tk rfl rfl rfl rfl tv (He 0 tk ek rfl rfl rfl rfl tv rfl rfl (Hn rfl (LessW.mk' ⟨Ao rfl, Ao rfl, Ao rfl, Ao rfl, tv⟩ ⟨rfl, rfl, rfl, rfl, rfl, tv⟩)))
    ·refine He 150 tk ek rfl rfl rfl rfl tv rfl rfl (WH.freezeT 150 enc_sl_sl_api_Need ([x9_7_1] : List (List (List T_api_Need))) rfl rfl rfl rfl (WH.val tk rfl rfl rfl rfl rfl tv rfl rfl (WH.appT enc_sl_sl_api_Need s6.2 ([x9_7_1] : List (List (List T_api_Need))) tk ek rfl rfl (fun _ => rfl) (fun _ => rfl) rfl rfl rfl rfl rfl (nCap_ok g9_9_1) rfl rfl rfl rfl rfl rfl rfl ?_)))
     exact Hr 1 tk rfl rfl rfl rfl tv (He 0 tk ek rfl rfl rfl rfl tv rfl rfl (Hn rfl (LessW.mk' ⟨Ao rfl, Ao rfl, Ao rfl, Ao rfl, tv⟩ ⟨rfl, rfl, rfl, rfl, rfl, tv⟩)))
  ·refine Qb (Qn ?_)
   exact Wg (Wr 3 tk sg0 rfl rfl tv (Wn (Qn (⟨⟨(k7, (IntKind.i64.wrap (s6.1 + 1), s6.2 ++ ([x9_7_1] : List (List (List T_api_Need))))), H⟩, Nat.lt_succ_self _, Less.mk' ⟨rfl, rfl, rfl, rfl, tv⟩ ⟨rfl, rfl, rfl, rfl, rfl, tv⟩⟩))))
 replace H := of_f H h8
 refine WC.exit (Qx (Qx (Qh (Qn ?_))))
 refine Ws (Ws (Wg (Wr 1 tk sg0 rfl rfl tv (Wn (Qn (Wb (WC.nilF 103 2 1107 44 3 rfl (Wl (ι := {x : Nat × (Int × (List T_api_Func)) // law10_Own_l11 a0 s2 s6 x.1 x.2 = some r}) (fun x => [(1, .ptr 101 0), (2, .ptr 102 0), (3, .ptr 103 0), (6, .d (.int .i64 x.1.2.1))]) (fun x => [(101, .box 26 [.d (slT enc_api_Decl a0.Decls), .d (slT enc_sl_sl_api_Need a0.Waits), .d (slT enc_api_Func a0.Funcs)]), (102, .box 26 [.d (.nils), .d (.nils), .d (.nils)]), (103, .box 26 [.own 1022, .own 1043, .own 1107]), (1022, .row 48 3 (s2.2.map enc_api_Decl)), (1043, .row 52 1 (s6.2.map enc_sl_sl_api_Need)), (1107, .row 44 3 (x.1.2.2.map enc_api_Func))]) (fun x => x.1.1) ⟨(fuel, (0, ([] : List T_api_Func))), H⟩ (Less.mk' ⟨rfl, rfl, rfl, rfl, tv⟩ ⟨rfl, rfl, rfl, rfl, rfl, rfl, tv⟩) fun x => ?_))))))))
 obtain ⟨⟨k11, s10⟩, H⟩ := x
 rcases k11 with _ | k11
 ·exact of_none H
 rw [law10_Own_l11] at H
 refine Ws (Ws (Wg (Wr 6 tk sg0 rfl rfl tv (Wx 2 5 true tk sg0 rfl rfl (fun _ => tv) (Wr 1 tk sg0 rfl rfl ⟨by first | exact id | exact fun h => by rw [h]; rfl | simp_all, tv⟩ (Wn (Qn (Wc rfl (fun h12 => ?_) (fun h12 => ?_)))))))))
 ·replace H := of_t H h12
  refine Wk (Qn ?_)
  obtain ⟨K13, hK13, H⟩ := of_withK H
  refine WC.cut (fun E m => ∃ s14 : List T_api_Func, K13 s14 = some r ∧ LessW E m [(1, .ptr 101 0), (2, .ptr 102 0), (3, .ptr 103 0), (6, .d (.int .i64 s10.1))] [(101, .box 26 [.d (slT enc_api_Decl a0.Decls), .d (slT enc_sl_sl_api_Need a0.Waits), .d (slT enc_api_Func a0.Funcs)]), (102, .box 26 [.d (.nils), .d (.nils), .d (.nils)]), (103, .box 26 [.own 1022, .own 1043, .own 1107]), (1022, .row 48 3 (s2.2.map enc_api_Decl)), (1043, .row 52 1 (s6.2.map enc_sl_sl_api_Need)), (1107, .row 44 3 (s14.map enc_api_Func))]) ?_ ?_
  ·refine Wb (Ws (Hp (.one 0 true (.one 1 true (.one 2 true (.one 3 true (.one 4 true (.one 5 true (.one 6 true (.one 7 true (.one 8 true (.one 9 true (.one 10 true (.one 11 true (.one 12 true (.one 13 false (.one 14 false .done))))))))))))))) [101, 102, 103] [101, 102, 103] rfl (by kernel_rfl) rfl (by kernel_rfl) rfl rfl (fun _ h => h) rfl rfl rfl (fun _ _ _ h => h) fun FK NK wK K => ?_))
   obtain ⟨g15, H⟩ := of_need H
   obtain ⟨g16, H⟩ := of_need H
   refine Hr 13 tk rfl rfl rfl rfl ⟨⟨(nIn_ok g15).1, (nIn_ok g15).2, rfl⟩, ⟨(nIn_ok g16).1, (nIn_ok g16).2, rfl⟩, tv⟩ (WH.alloc 107 tk rfl rfl rfl rfl rfl rfl (He 0 tk ek rfl rfl rfl rfl tv rfl rfl (WH.nil rfl (Qn (Ws (Ws (Wg (Wr 1 tk sg0 rfl rfl tv (Wn (Qn (Wb (WC.nilF 107 2 1093 46 3 rfl (Wl (ι := {x : Nat × (Int × (List T_api_Ins)) // law10_Own_l19 a0 s10 K13 x.1 x.2 = some r}) (fun x => [(1, .ptr 101 0), (2, .ptr 102 0), (3, .ptr 103 0), (6, .d (.int .i64 s10.1)), (7, .ptr 107 0), (8, .d (.int .i64 x.1.2.1))]) (fun x => [(101, .box 26 [.d (slT enc_api_Decl a0.Decls), .d (slT enc_sl_sl_api_Need a0.Waits), .d (slT enc_api_Func a0.Funcs)]), (102, .box 26 [.d (.nils), .d (.nils), .d (.nils)]), (103, .box 26 [.own 1022, .own 1043, .own 1107]), (107, .box 44 [.d (.int .i64 ((a0.Funcs.getD s10.1.toNat default).Args)), .d (.int .i64 ((a0.Funcs.getD s10.1.toNat default).Locals)), .own 1093]), (1022, .row 48 3 (s2.2.map enc_api_Decl)), (1043, .row 52 1 (s6.2.map enc_sl_sl_api_Need)), (1093, .row 46 3 (x.1.2.2.map enc_api_Ins)), (1107, .row 44 3 (s10.2.map enc_api_Func))]) (fun x => x.1.1) ⟨(fuel, (0, ([] : List T_api_Ins))), H⟩ (Less.mk' ⟨rfl, rfl, rfl, rfl, rfl, rfl, tv⟩ ⟨rfl, rfl, rfl, rfl, rfl, rfl, rfl, rfl, tv⟩) fun x => ?_)))))))))))))
   obtain ⟨⟨k19, s18⟩, H⟩ := x
   rcases k19 with _ | k19
   ·exact of_none H
   rw [law10_Own_l19] at H
   refine Ws (Ws (Wg ?_))
   obtain ⟨g20, H⟩ := of_need H
   refine Wr 10 tk sg0 rfl rfl ⟨⟨(nIn_ok g20).1, (nIn_ok g20).2, rfl⟩, tv⟩ (Wx 2 9 true tk sg0 rfl rfl (fun _ => tv) (Wr 1 tk sg0 rfl rfl ⟨by first | exact id | exact fun h => by rw [h]; rfl | simp_all, tv⟩ (Wn (Qn (Wc rfl (fun h21 => ?_) (fun h21 => ?_))))))
   ·replace H := of_t H h21
    refine Wk (Qn (Ws (Wb ?_)))
    obtain ⟨g17_5_1, H⟩ := of_need H
    obtain ⟨g17_9_1, H⟩ := of_need H
    obtain ⟨g17_12_1, H⟩ := of_need H
    refine WC.heldF [(1, .ptr 101 0), (2, .ptr 102 0), (3, .ptr 103 0), (6, .d (.int .i64 s10.1)), (7, .ptr 107 0), (8, .d (.int .i64 s18.1))] [(101, .box 26 [.d (slT enc_api_Decl a0.Decls), .d (slT enc_sl_sl_api_Need a0.Waits), .d (slT enc_api_Func a0.Funcs)]), (102, .box 26 [.d (.nils), .d (.nils), .d (.nils)]), (103, .box 26 [.own 1022, .own 1043, .own 1107]), (107, .box 44 [.d (.int .i64 ((a0.Funcs.getD s10.1.toNat default).Args)), .d (.int .i64 ((a0.Funcs.getD s10.1.toNat default).Locals)), .own 1093]), (1022, .row 48 3 (s2.2.map enc_api_Decl)), (1043, .row 52 1 (s6.2.map enc_sl_sl_api_Need)), (1093, .row 46 3 ((s18.2 ++ ([(((a0.Funcs.getD s10.1.toNat default).Code).getD s18.1.toNat default)] : List T_api_Ins)).map enc_api_Ins)), (1107, .row 44 3 (s10.2.map enc_api_Func))] (.one 0 true (.one 2 true (.one 3 true (.one 4 true (.one 5 true (.one 6 true (.one 7 true (.one 8 true (.one 9 true (.one 10 true (.fork (.one 1 false (.one 11 false (.one 12 false (.one 13 true (.one 14 false .done))))) (.one 11 false (.one 1 false (.one 12 false (.one 13 true (.one 14 false .done)))))))))))))))) [101, 102, 103, 107] [101, 102, 103] rfl (by kernel_rfl) rfl (by kernel_rfl) rfl rfl (fun _ h => h) rfl rfl rfl (fun FK NK wK K => ?_) ?_
    ·refine Hr 10 tk rfl rfl rfl rfl ⟨⟨(nIn_ok g17_5_1).1, (nIn_ok g17_5_1).2, rfl⟩, ⟨(nIn_ok g17_9_1).1, (nIn_ok g17_9_1).2, rfl⟩, tv⟩ (WH.fork ?_ ?_)
     ·refine WH.val tk rfl rfl rfl rfl rfl tv rfl rfl (He 203 tk ek rfl rfl rfl rfl tv rfl rfl (WH.freezeT 203 enc_api_Ins ([(((a0.Funcs.getD s10.1.toNat default).Code).getD s18.1.toNat default)] : List T_api_Ins) rfl rfl rfl rfl (WH.appT enc_api_Ins s18.2 ([(((a0.Funcs.getD s10.1.toNat default).Code).getD s18.1.toNat default)] : List T_api_Ins) tk ek rfl rfl (fun _ => rfl) (fun _ => rfl) rfl rfl rfl rfl rfl (nCap_ok g17_12_1) rfl rfl rfl rfl rfl rfl rfl ?_)))
      exact Hr 1 tk rfl rfl rfl rfl tv (He 0 tk ek rfl rfl rfl rfl tv rfl rfl (Hn rfl (LessW.mk' ⟨Ao rfl, Ao rfl, Ao rfl, Ao rfl, Ao rfl, Ao rfl, tv⟩ ⟨rfl, rfl, rfl, rfl, rfl, rfl, rfl, rfl, tv⟩)))
     ·refine He 203 tk ek rfl rfl rfl rfl tv rfl rfl (WH.freezeT 203 enc_api_Ins ([(((a0.Funcs.getD s10.1.toNat default).Code).getD s18.1.toNat default)] : List T_api_Ins) rfl rfl rfl rfl (WH.val tk rfl rfl rfl rfl rfl tv rfl rfl (WH.appT enc_api_Ins s18.2 ([(((a0.Funcs.getD s10.1.toNat default).Code).getD s18.1.toNat default)] : List T_api_Ins) tk ek rfl rfl (fun _ => rfl) (fun _ => rfl) rfl rfl rfl rfl rfl (nCap_ok g17_12_1) rfl rfl rfl rfl rfl rfl rfl ?_)))
      exact Hr 1 tk rfl rfl rfl rfl tv (He 0 tk ek rfl rfl rfl rfl tv rfl rfl (Hn rfl (LessW.mk' ⟨Ao rfl, Ao rfl, Ao rfl, Ao rfl, Ao rfl, Ao rfl, tv⟩ ⟨rfl, rfl, rfl, rfl, rfl, rfl, rfl, rfl, tv⟩)))
    ·refine Qb (Qn ?_)
     exact Wg (Wr 3 tk sg0 rfl rfl tv (Wn (Qn (⟨⟨(k19, (IntKind.i64.wrap (s18.1 + 1), s18.2 ++ ([(((a0.Funcs.getD s10.1.toNat default).Code).getD s18.1.toNat default)] : List T_api_Ins))), H⟩, Nat.lt_succ_self _, Less.mk' ⟨rfl, rfl, rfl, rfl, rfl, rfl, tv⟩ ⟨rfl, rfl, rfl, rfl, rfl, rfl, rfl, rfl, tv⟩⟩))))
   replace H := of_f H h21
   refine WC.exit (Qx (Qx (Qh (Qn ?_))))
   refine Wg (Wr 2 tk sg0 rfl rfl tv (WL.freezeT 1093 enc_api_Ins s18.2 rfl rfl rfl rfl (Wr 1 tk sg0 rfl rfl tv (We 209 tk ek eg0 rfl rfl rfl tv (WL.freezeT 209 enc_api_Func ([(⟨(a0.Funcs.getD s10.1.toNat default).Args, (a0.Funcs.getD s10.1.toNat default).Locals, s18.2⟩ : T_api_Func)] : List T_api_Func) rfl rfl rfl rfl ?_)))))
   obtain ⟨g22, H⟩ := of_need H
   refine WL.appT enc_api_Func s10.2 ([(⟨(a0.Funcs.getD s10.1.toNat default).Args, (a0.Funcs.getD s10.1.toNat default).Locals, s18.2⟩ : T_api_Func)] : List T_api_Func) tk ek rfl rfl (fun _ => rfl) (fun _ => rfl) rfl rfl rfl rfl (nCap_ok g22) rfl rfl rfl rfl rfl ?_
   refine Wr 1 tk sg0 rfl rfl tv (We 0 tk ek eg0 rfl rfl rfl tv (Wn (Qb (Qn ?_))))
   exact ⟨s10.2 ++ ([(⟨(a0.Funcs.getD s10.1.toNat default).Args, (a0.Funcs.getD s10.1.toNat default).Locals, s18.2⟩ : T_api_Func)] : List T_api_Func), H, LessW.mk' ⟨Ao rfl, Ao rfl, Ao rfl, Ao rfl, tv⟩ ⟨rfl, rfl, rfl, rfl, rfl, rfl, tv⟩⟩
  ·rintro E m ⟨s14, H, hl⟩
   refine WC.lessW hl ?_
   replace H := (hK13 _).symm.trans H
   try dsimp only at H
   exact Wg (Wr 3 tk sg0 rfl rfl tv (Wn (Qn (⟨⟨(k11, (IntKind.i64.wrap (s10.1 + 1), s14)), H⟩, Nat.lt_succ_self _, Less.mk' ⟨rfl, rfl, rfl, rfl, tv⟩ ⟨rfl, rfl, rfl, rfl, rfl, rfl, tv⟩⟩))))
 replace H := of_f H h12
 refine WC.exit (Qx (Qx (Qh (Qn ?_))))
 refine Ws (Wg (WL.freezeT 1022 enc_api_Decl s2.2 rfl rfl rfl rfl (WL.freezeT 1043 enc_sl_sl_api_Need s6.2 rfl rfl rfl rfl (WL.freezeT 1107 enc_api_Func s10.2 rfl rfl rfl rfl (Wr 1 tk sg0 rfl rfl tv (We 0 tk ek eg0 rfl rfl rfl tv (Wn (Qn (Wt ?_)))))))))
 cases H
 exact Ends.autoC tk rfl rfl rfl tv
theorem law10_Own_f : hasFunc Tryd.prog 8 Tryd.f8 := ⟨Tryd.func8, rfl, by kernel_rfl⟩

theorem ref02_List_0 (a0 : Int) {r : List Int} (H : ref02_List a0 = some r) : LJ.Spec Tryd.prog 10 [.d (.int .u64 a0)] [] (.d (slT enc_i64 r)) [] := by
 refine LJ.Spec.code Tryd.func10 rfl 20 rfl rfl [] rfl fun w0 F0 S0 B0 => ?_
 unfold ref02_List at H
 refine Ws (Wg (Wr 1 tk sg0 rfl rfl tv (Wn (Qn (Ws (Wg (We 105 tk ek eg0 rfl rfl rfl tv (Wr 1 tk sg0 rfl rfl tv (Wn (Qn (Ws (Ws (Wg (Wr 1 tk sg0 rfl rfl tv (Wn (Qn (Wb (Wl (ι := {x : Nat × (Int × Int × (List Int)) // ref02_List_l2 x.1 x.2 = some r}) (fun x => [(0, .d (.int .u64 x.1.2.1)), (3, .own 105), (4, .d (.int .i64 x.1.2.2.1))]) (fun x => [(105, .row 3 1 (x.1.2.2.2.map enc_i64))]) (fun x => x.1.1) ⟨(fuel, (a0, 0, ([] : List Int))), H⟩ (Less.mk' ⟨rfl, rfl, rfl, tv⟩ ⟨rfl, tv⟩) fun x => ?_))))))))))))))))))
 obtain ⟨⟨k2, s1⟩, H⟩ := x
 rcases k2 with _ | k2
 ·exact of_none H
 rw [ref02_List_l2] at H
 refine Ws (Ws (Wg (Wr 2 tk sg0 rfl rfl tv (Wn (Qn (Wc rfl (fun h3 => ?_) (fun h3 => ?_)))))))
 ·replace H := of_t H h3
  refine Wk (Qn (Ws (Wb (Ws (Ws (Wg (Wr 3 tk sg0 rfl rfl tv (Wn (Qn (Wc rfl (fun h4 => ?_) (fun h4 => ?_)))))))))))
  ·replace H := of_t H h4
   refine Wg (Wr 2 tk sg0 rfl rfl tv (We 115 tk ek eg0 rfl rfl rfl tv (WL.freezeT 115 enc_i64 ([s1.2.1] : List Int) rfl rfl rfl rfl ?_)))
   obtain ⟨g5, H⟩ := of_need H
   refine WL.appT enc_i64 s1.2.2 ([s1.2.1] : List Int) tk ek rfl rfl (fun _ => rfl) (fun _ => rfl) rfl rfl rfl rfl (nCap_ok g5) rfl rfl rfl rfl rfl ?_
   refine Wr 1 tk sg0 rfl rfl tv (Wn (Qn (Wg (Wr 3 tk sg0 rfl rfl tv (Wn (Qb (Qn ?_)))))))
   exact Wg (Wr 3 tk sg0 rfl rfl tv (Wn (Qn (⟨⟨(k2, (IntKind.u64.wrap (Int.tdiv s1.1 2), IntKind.i64.wrap (s1.2.1 + 1), s1.2.2 ++ ([s1.2.1] : List Int))), H⟩, Nat.lt_succ_self _, Less.mk' ⟨rfl, rfl, rfl, tv⟩ ⟨rfl, tv⟩⟩))))
  replace H := of_f H h4
  refine Wk (Qn (Wg (Wr 3 tk sg0 rfl rfl tv (Wn (Qb (Qn ?_))))))
  exact Wg (Wr 3 tk sg0 rfl rfl tv (Wn (Qn (⟨⟨(k2, (IntKind.u64.wrap (Int.tdiv s1.1 2), IntKind.i64.wrap (s1.2.1 + 1), s1.2.2)), H⟩, Nat.lt_succ_self _, Less.mk' ⟨rfl, rfl, rfl, tv⟩ ⟨rfl, tv⟩⟩))))
 replace H := of_f H h3
 refine WC.exit (Qx (Qx (Qh (Qn ?_))))
 refine Ws (Wg (Wr 2 tk sg0 rfl rfl tv (Wn (Qn (WC.freezeT 105 enc_i64 s1.2.2 rfl rfl rfl rfl (Wt ?_))))))
 cases H
 exact Ea rfl rfl rfl tv
theorem ref02_List_f : hasFunc Tryd.prog 10 Tryd.f10 := ⟨Tryd.func10, rfl, by kernel_rfl⟩

theorem ref02_Has_0 (a0 : Int) (a1 : Int) {r : Bool} (H : ref02_Has a0 a1 = some r) : LJ.Spec Tryd.prog 11 [.d (.int .u64 a0), .d (.int .i64 a1)] [] (.d (.bool r)) [] := by
 refine LJ.Spec.code Tryd.func11 rfl 22 rfl rfl [] rfl fun w0 F0 S0 B0 => ?_
 unfold ref02_Has at H
 refine Ws (Wg (Wr 1 tk sg0 rfl rfl tv (Wn (Qn (Ws (Ws (Wg (Wr 3 tk sg0 rfl rfl tv (Wx 2 2 false tk sg0 rfl rfl (fun _ => tv) (Wr 1 tk sg0 rfl rfl ⟨by first | exact id | exact fun h => by rw [h]; rfl | simp_all, tv⟩ (Wn (Qn (Wc rfl (fun h1 => ?_) (fun h1 => ?_))))))))))))))
 ·replace H := of_t H h1
  refine Ws (Wg (Wr 1 tk sg0 rfl rfl tv (Wn (Qn (Wt (QT.r ?_))))))
  cases H
  exact Ea rfl rfl rfl tv
 replace H := of_f H h1
 refine Wk (Qn (Ws (Ws (Wg (Wr 1 tk sg0 rfl rfl tv (Wn (Qn (Wb (Wl (ι := {x : Nat × (Int × Int) // ref02_Has_l3 a1 x.1 x.2 = some r}) (fun x => [(0, .d (.int .u64 x.1.2.1)), (1, .d (.int .i64 a1)), (5, .d (.int .i64 x.1.2.2))]) (fun x => []) (fun x => x.1.1) ⟨(fuel, (a0, 0)), H⟩ (Less.mk' ⟨rfl, rfl, rfl, tv⟩ tv) fun x => ?_)))))))))
 obtain ⟨⟨k3, s2⟩, H⟩ := x
 rcases k3 with _ | k3
 ·exact of_none H
 rw [ref02_Has_l3] at H
 refine Ws (Ws (Wg (Wr 3 tk sg0 rfl rfl tv (Wn (Qn (Wc rfl (fun h4 => ?_) (fun h4 => ?_)))))))
 ·replace H := of_t H h4
  refine Wk (Qn (Ws (Wb (Wg (Wr 3 tk sg0 rfl rfl tv (Wn (Qb (Qn ?_))))))))
  exact Wg (Wr 3 tk sg0 rfl rfl tv (Wn (Qn (⟨⟨(k3, (IntKind.u64.wrap (Int.tdiv s2.1 2), IntKind.i64.wrap (s2.2 + 1))), H⟩, Nat.lt_succ_self _, Less.mk' ⟨rfl, rfl, rfl, tv⟩ tv⟩))))
 replace H := of_f H h4
 refine WC.exit (Qx (Qx (Qh (Qn ?_))))
 refine Ws (Wg (Wr 4 tk sg0 rfl rfl tv (Wn (Qn (Wt ?_)))))
 cases H
 exact Ea rfl rfl rfl tv
theorem ref02_Has_f : hasFunc Tryd.prog 11 Tryd.f11 := ⟨Tryd.func11, rfl, by kernel_rfl⟩

theorem law12_VerifyMore_0 (a0 : T_api_Program) (a1 : Int) {r : Bool} (H : law12_VerifyMore a0 a1 = some r) : LJ.Spec Tryd.prog 3 [.d (.agg [slT enc_api_Decl a0.Decls, slT enc_sl_sl_api_Need a0.Waits, slT enc_api_Func a0.Funcs]), .d (.int .i64 a1)] [] (.d (.bool r)) [] := by
 refine LJ.Spec.code Tryd.func3 rfl 73 rfl rfl [] rfl fun w0 F0 S0 B0 => ?_
 unfold law12_VerifyMore at H
 refine Ws (Wg (We 102 tk ek eg0 rfl rfl rfl tv (Wr 1 tk sg0 rfl rfl tv (Wn (Qn (Ws (Ws (Wg (Wr 1 tk sg0 rfl rfl tv ?_)))))))))
 obtain ⟨x1, hx1, H⟩ := of_bind H
 refine Wf [] (ref10_Check_0 _ hx1) ref10_Check_f rfl rfl tv rfl rfl rfl (Wr 1 tk sg0 rfl rfl tv (Wn (Qn (Wc rfl (fun h2 => ?_) (fun h2 => ?_)))))
 ·replace H := of_t H h2
  refine Ws (Wg ?_)
  obtain ⟨x3, hx3, H⟩ := of_bind H
  refine Wf [] (law12_lives_0 hx3) law12_lives_f rfl rfl tv rfl rfl rfl (Wr 1 tk sg0 rfl rfl tv (Wn (Qn (Wt (QT.r ?_)))))
  cases H
  exact Ea rfl rfl rfl tv
 replace H := of_f H h2
 refine Wk (Qn (Ws (Hp (.one 0 true (.one 2 true (.one 4 true (.one 6 true (.one 1 false (.one 3 false (.one 5 false (.one 7 false (.one 8 true (.one 9 true .done)))))))))) [102] [102] rfl (by kernel_rfl) rfl (by kernel_rfl) rfl rfl (fun _ h => h) rfl rfl rfl (fun _ _ _ h => h) fun FK NK wK K => (Hr 4 tk rfl rfl rfl rfl tv ?_))))
 obtain ⟨x4, hx4, H⟩ := of_bind H
 refine WH.call [] rfl (law10_Own_0 _ hx4) law10_Own_f rfl rfl tv rfl rfl rfl rfl rfl ?_
 obtain ⟨x5, hx5, H⟩ := of_bind H
 refine WH.call [] rfl (verify_Calls_0 _ _ hx5) verify_Calls_f rfl rfl tv rfl rfl rfl rfl rfl ?_
 obtain ⟨x6, hx6, H⟩ := of_bind H
 refine WH.call [] rfl (law10_Own_0 _ hx6) law10_Own_f rfl rfl tv rfl rfl rfl rfl rfl ?_
 obtain ⟨x7, hx7, H⟩ := of_bind H
 refine WH.call [] rfl (verify_Uses_0 _ _ hx7) verify_Uses_f rfl rfl tv rfl rfl rfl rfl rfl (Hr 2 tk rfl rfl rfl rfl tv (WH.nil rfl (Qn (Ws (Wg (Wr 1 tk sg0 rfl rfl tv ?_))))))
 obtain ⟨x8, hx8, H⟩ := of_bind H
 refine Wf [] (ref02_List_0 _ hx8) ref02_List_f rfl rfl tv rfl rfl rfl (Wr 1 tk sg0 rfl rfl tv (Wn (Qn (Ws (Ws (Wg (Wr 1 tk sg0 rfl rfl tv (Wn (Qn (Wb (Wl (ι := {x : Nat × Int // law12_VerifyMore_l10 a0 a1 x5 x7 x8 x.1 x.2 = some r}) (fun x => [(1, .d (.int .i64 a1)), (2, .ptr 102 0), (5, .d (.int .u64 x5)), (6, .d (.int .u64 x7)), (7, .d (slT enc_i64 x8)), (8, .d (.int .i64 x.1.2))]) (fun x => [(102, .box 26 [.d (slT enc_api_Decl a0.Decls), .d (slT enc_sl_sl_api_Need a0.Waits), .d (slT enc_api_Func a0.Funcs)])]) (fun x => x.1.1) ⟨(fuel, 0), H⟩ (Less.mk' ⟨rfl, rfl, rfl, rfl, rfl, rfl, tv⟩ ⟨rfl, tv⟩) fun x => ?_)))))))))))
 obtain ⟨⟨k10, s9⟩, H⟩ := x
 rcases k10 with _ | k10
 ·exact of_none H
 rw [law12_VerifyMore_l10] at H
 refine Ws (Ws (Wg (Wr 4 tk sg0 rfl rfl tv (Wn (Qn (Wc rfl (fun h11 => ?_) (fun h11 => ?_)))))))
 ·replace H := of_t H h11
  refine Wk (Qn (Ws (Wb (Ws (Hp (.one 0 true (.one 2 true (.one 3 true (.one 4 true (.one 5 true (.one 7 true (.one 9 true (.one 10 true (.one 11 true (.one 12 true (.one 1 false (.one 6 false (.one 8 false (.one 13 false (.one 14 true (.one 15 true .done)))))))))))))))) [102] [102] rfl (by kernel_rfl) rfl (by kernel_rfl) rfl rfl (fun _ h => h) rfl rfl rfl (fun _ _ _ h => h) fun FK NK wK K => ?_)))))
  obtain ⟨g12, H⟩ := of_need H
  obtain ⟨g13, H⟩ := of_need H
  refine Hr 10 tk rfl rfl rfl rfl ⟨⟨(nIn_ok g12).1, (nIn_ok g12).2, rfl⟩, ⟨(nIn_ok g13).1, (nIn_ok g13).2, rfl⟩, tv⟩ ?_
  obtain ⟨x14, hx14, H⟩ := of_bind H
  refine WH.call [] rfl (law10_Own_0 _ hx14) law10_Own_f rfl rfl tv rfl rfl rfl rfl rfl ?_
  obtain ⟨x15, hx15, H⟩ := of_bind H
  refine WH.call [] rfl (verify_Calls_0 _ _ hx15) verify_Calls_f rfl rfl tv rfl rfl rfl rfl rfl ?_
  obtain ⟨x16, hx16, H⟩ := of_bind H
  refine WH.call [] rfl (law10_Own_0 _ hx16) law10_Own_f rfl rfl tv rfl rfl rfl rfl rfl ?_
  obtain ⟨x17, hx17, H⟩ := of_bind H
  refine WH.call [] rfl (verify_Uses_0 _ _ hx17) verify_Uses_f rfl rfl tv rfl rfl rfl rfl rfl (Hr 2 tk rfl rfl rfl rfl tv (WH.nil rfl (Qn (Ws (Wg (Wr 6 tk sg0 rfl rfl tv (Wx 5 5 false tk sg0 rfl rfl (fun _ => tv) (Wr 1 tk sg0 rfl rfl ⟨by first | exact id | exact fun h => by rw [h]; rfl | simp_all, tv⟩ (Wn (Qn (Wc rfl (fun h18 => ?_) (fun h18 => ?_))))))))))))
  ·replace H := of_t H h18
   refine Ws (Wg (Wr 1 tk sg0 rfl rfl tv (Wn (Qn (Wt (QB.r (QT.r (QT.r (QB.r (QT.r ?_))))))))))
   cases H
   exact Ea rfl rfl rfl tv
  replace H := of_f H h18
  refine Wk (Qb (Qn ?_))
  exact Wg (Wr 3 tk sg0 rfl rfl tv (Wn (Qn (⟨⟨(k10, IntKind.i64.wrap (s9 + 1)), H⟩, Nat.lt_succ_self _, Less.mk' ⟨rfl, rfl, rfl, rfl, rfl, rfl, tv⟩ ⟨rfl, tv⟩⟩))))
 replace H := of_f H h11
 refine WC.exit (Qx (Qx (Qh (Qn ?_))))
 refine Ws (Wg (Wr 2 tk sg0 rfl rfl tv ?_))
 obtain ⟨x19, hx19, H⟩ := of_bind H
 refine Wf [] (ref02_Has_0 _ _ hx19) ref02_Has_f rfl rfl tv rfl rfl rfl (Wr 3 tk sg0 rfl rfl tv (Wx 5 5 true tk sg0 rfl rfl (fun _ => tv) (Wr 3 tk sg0 rfl rfl ⟨by first | exact id | exact fun h => by rw [h]; rfl | simp_all, tv⟩ ?_)))
 obtain ⟨x20, hx20, H⟩ := of_bind H
 refine Wx 1 13 true tk [PSig.at' law12_lives_f ((x19 == ((iLe 0 a1) && (iLt a1 (a0.Funcs.length : Int)))) = true) rfl (fun hb => law12_lives_0  (of_t hx20 hb))] rfl rfl (fun hb => ⟨⟨hb, rfl⟩, tv⟩) (Wr 2 tk sg0 rfl rfl ⟨by first | exact id | exact fun h => by rw [h]; rfl | simp_all, tv⟩ (Wn (Qn (Wt ?_))))
 cases H
 exact Ea rfl rfl rfl tv

theorem ref12_object_0 (a0 : Int) {r : Bool} (H : ref12_object a0 = some r) : LJ.Spec Tryd.prog 59 [.d (.int .u8 a0)] [] (.d (.bool r)) [] := by
 refine LJ.Spec.code Tryd.func59 rfl 25 rfl rfl [] rfl fun w0 F0 S0 B0 => ?_
 unfold ref12_object at H
 refine Ws (Wg (Wr 1 tk sg0 rfl rfl tv (Wn (Qn (Ws (Wg (Wr 3 tk sg0 rfl rfl tv (Wx 2 2 true tk sg0 rfl rfl (fun _ => tv) (Wr 2 tk sg0 rfl rfl ⟨by first | exact id | exact fun h => by rw [h]; rfl | simp_all, tv⟩ (Wx 2 6 true tk sg0 rfl rfl (fun _ => tv) (Wr 2 tk sg0 rfl rfl ⟨by first | exact id | exact fun h => by rw [h]; rfl | simp_all, tv⟩ (Wx 2 10 true tk sg0 rfl rfl (fun _ => tv) (Wr 2 tk sg0 rfl rfl ⟨by first | exact id | exact fun h => by rw [h]; rfl | simp_all, tv⟩ (Wx 2 14 true tk sg0 rfl rfl (fun _ => tv) ?_))))))))))))))
 refine Wr 2 tk sg0 rfl rfl ⟨by first | exact id | exact fun h => by rw [h]; rfl | simp_all, tv⟩ (Wx 2 18 true tk sg0 rfl rfl (fun _ => tv) (Wr 2 tk sg0 rfl rfl ⟨by first | exact id | exact fun h => by rw [h]; rfl | simp_all, tv⟩ (Wn (Qn (Wt ?_)))))
 cases H
 exact Ea rfl rfl rfl tv
theorem ref12_object_f : hasFunc Tryd.prog 59 Tryd.f59 := ⟨Tryd.func59, rfl, by kernel_rfl⟩

theorem ref12_operand_0 (a0 : T_api_Program) (a1 : T_api_Func) (a2 : T_api_Ins) (a3 : Int) (a4 : Int) {r : Int} (H : ref12_operand a0 a1 a2 a3 a4 = some r) : LJ.Spec Tryd.prog 40 [.d (.agg [slT enc_api_Decl a0.Decls, slT enc_sl_sl_api_Need a0.Waits, slT enc_api_Func a0.Funcs]), .d (.agg [.int .i64 a1.Args, .int .i64 a1.Locals, slT enc_api_Ins a1.Code]), .d (.agg [.int .i64 a2.Op, .int .i64 a2.A, .int .i64 a2.B]), .d (.int .u8 a3), .d (.int .i64 a4)] [] (.d (.int .i64 r)) [] := by
 refine LJ.Spec.code Tryd.func40 rfl 74 rfl rfl [] rfl fun w0 F0 S0 B0 => ?_
 unfold ref12_operand at H
 refine Ws (Wg (We 105 tk ek eg0 rfl rfl rfl tv (We 106 tk ek eg0 rfl rfl rfl tv (We 107 tk ek eg0 rfl rfl rfl tv (Wr 1 tk sg0 rfl rfl tv (Wn (Qn (Ws (Ws (Wg (Wr 3 tk sg0 rfl rfl tv (Wx 4 2 true tk sg0 rfl rfl (fun _ => tv) (Wr 2 tk sg0 rfl rfl ⟨by first | exact id | exact fun h => by rw [h]; rfl | simp_all, tv⟩ (Wx 3 8 false tk sg0 rfl rfl (fun _ => tv) (Wx 5 11 true tk sg0 rfl rfl (fun _ => tv) ?_)))))))))))))))
 refine Wx 1 8 false tk sg0 rfl rfl (fun hb => ⟨by first | exact id | exact ⟨hb, fun h => by rw [hb, h]; rfl⟩ | exact ⟨hb, id⟩ | exact fun h => by rw [hb, h]; rfl | exact fun h => by rw [h]; rfl | simp_all, tv⟩) (Wr 2 tk sg0 rfl rfl ⟨by first | exact id | exact fun h => by rw [h]; rfl | simp_all, tv⟩ (Wx 3 19 false tk sg0 rfl rfl (fun _ => tv) (Wx 5 22 true tk sg0 rfl rfl (fun _ => tv) (Wx 1 19 false tk sg0 rfl rfl (fun hb => ⟨by first | exact id | exact ⟨hb, fun h => by rw [hb, h]; rfl⟩ | exact ⟨hb, id⟩ | exact fun h => by rw [hb, h]; rfl | exact fun h => by rw [h]; rfl | simp_all, tv⟩) (Wr 1 tk sg0 rfl rfl ⟨by first | exact id | exact fun h => by rw [h]; rfl | simp_all, tv⟩ (Wn (Qn (Wc rfl (fun h1 => ?_) (fun h1 => ?_)))))))))
 ·replace H := of_t H h1
  refine Ws (Wg (Wr 1 tk sg0 rfl rfl tv (Wn (Qn (Wt (QT.r ?_))))))
  cases H
  exact Ea rfl rfl rfl tv
 replace H := of_f H h1
 refine Wk (Qn (Ws (Ws (Wg (Wr 3 tk sg0 rfl rfl tv (Wx 6 2 true tk sg0 rfl rfl (fun _ => tv) (Wx 4 8 false tk sg0 rfl rfl (fun _ => tv) ?_)))))))
 obtain ⟨g2, H⟩ := of_needS H
 refine Wx 7 12 true tk sg0 rfl rfl (fun hb => ⟨⟨(nIn_ok (g2 hb)).1, (nIn_ok (g2 hb)).2, rfl⟩, tv⟩) (Wx 1 8 false tk sg0 rfl rfl (fun hb => ⟨by first | exact id | exact ⟨hb, fun h => by rw [hb, h]; rfl⟩ | exact ⟨hb, id⟩ | exact fun h => by rw [hb, h]; rfl | exact fun h => by rw [h]; rfl | simp_all, tv⟩) (Wx 1 2 true tk sg0 rfl rfl (fun hb => ⟨by first | exact id | exact ⟨hb, fun h => by rw [hb, h]; rfl⟩ | exact ⟨hb, id⟩ | exact fun h => by rw [hb, h]; rfl | exact fun h => by rw [h]; rfl | simp_all, tv⟩) (Wr 1 tk sg0 rfl rfl ⟨by first | exact id | exact fun h => by rw [h]; rfl | simp_all, tv⟩ (Wn (Qn (Wc rfl (fun h3 => ?_) (fun h3 => ?_)))))))
 ·replace H := of_t H h3
  refine Ws (Wg (Wr 1 tk sg0 rfl rfl tv (Wn (Qn (Wt (QT.r ?_))))))
  cases H
  exact Ea rfl rfl rfl tv
 replace H := of_f H h3
 refine Wk (Qn (Ws (Ws (Wg (Wr 1 tk sg0 rfl rfl tv ?_)))))
 obtain ⟨x4, hx4, H⟩ := of_bind H
 refine Wf [] (ref12_object_0 _ hx4) ref12_object_f rfl rfl tv rfl rfl rfl (Wr 1 tk sg0 rfl rfl tv ?_)
 obtain ⟨x5, hx5, H⟩ := of_bind H
 refine Wx 6 2 true tk [PSig.at' ref08_Fits_f (x4 = true) rfl (fun hb => ref08_Fits_0 _ _ _ (of_t hx5 hb))] rfl rfl (fun hb => ⟨⟨hb, rfl⟩, tv⟩) (Wr 1 tk sg0 rfl rfl ⟨by first | exact id | exact fun h => by rw [h]; rfl | simp_all, tv⟩ (Wn (Qn (Wc rfl (fun h6 => ?_) (fun h6 => ?_)))))
 ·replace H := of_t H h6
  refine Ws (Wg (Wr 1 tk sg0 rfl rfl tv (Wn (Qn (Wt (QT.r ?_))))))
  cases H
  exact Ea rfl rfl rfl tv
 replace H := of_f H h6
 refine Wk (Qn (Ws (Wg (Wr 1 tk sg0 rfl rfl tv (Wn (Qn (Wt ?_)))))))
 cases H
 exact Ea rfl rfl rfl tv
theorem ref12_operand_f : hasFunc Tryd.prog 40 Tryd.f40 := ⟨Tryd.func40, rfl, by kernel_rfl⟩

theorem ref06_Takes_0  {r : List Int} (H : ref06_Takes = some r) : LJ.Spec Tryd.prog 83 [] [] (.d (slT enc_i64 r)) [] := by
 refine LJ.Spec.code Tryd.func83 rfl 2 rfl rfl [] rfl fun w0 F0 S0 B0 => ?_
 unfold ref06_Takes at H
 refine Ws (Wg (Wr 1 tk sg0 rfl rfl tv (Wn (Qn (Ws (Wg (We 101 tk ek eg0 rfl rfl rfl tv (WL.freezeT 101 enc_i64 ([0, 0, 1, 2, 2, 2, 2, 2, 1, 2, 2, 2, 2, 2, 2, 2, 1, 1, 0, 1, 0, 1, 0, 0, 1, 0, 0, 1, 1, 0, 1, 1, 0, 1, 0, 0, 0, 0, 0, 1, 2, 0, 1, 2, 1, 0, 1, 0, 0, 1, 0, 0] : List Int) rfl rfl rfl rfl (Wr 1 tk sg0 rfl rfl tv (Wn (Qn (Wt ?_))))))))))))
 cases H
 exact Ea rfl rfl rfl tv
theorem ref06_Takes_f : hasFunc Tryd.prog 83 Tryd.f83 := ⟨Tryd.func83, rfl, by kernel_rfl⟩

theorem ref06_Pops_0 (a0 : T_api_Ins) (a1 : Int) {r : Int} (H : ref06_Pops a0 a1 = some r) : LJ.Spec Tryd.prog 79 [.d (.agg [.int .i64 a0.Op, .int .i64 a0.A, .int .i64 a0.B]), .d (.int .i64 a1)] [] (.d (.int .i64 r)) [] := by
 refine LJ.Spec.code Tryd.func79 rfl 34 rfl rfl [] rfl fun w0 F0 S0 B0 => ?_
 unfold ref06_Pops at H
 refine Ws (Wg (We 102 tk ek eg0 rfl rfl rfl tv (Wr 1 tk sg0 rfl rfl tv (Wn (Qn (Ws (Ws (Wg (Wr 2 tk sg0 rfl rfl tv ?_)))))))))
 obtain ⟨x1, hx1, H⟩ := of_bind H
 refine Wf [] (ref06_Known_0 _ hx1) ref06_Known_f rfl rfl tv rfl rfl rfl (Wr 1 tk sg0 rfl rfl tv (Wn (Qn (Wc rfl (fun h2 => ?_) (fun h2 => ?_)))))
 ·replace H := of_t H h2
  refine Ws (Wg (Wr 1 tk sg0 rfl rfl tv (Wn (Qn (Wt (QT.r ?_))))))
  cases H
  exact Ea rfl rfl rfl tv
 replace H := of_f H h2
 refine Wk (Qn (Ws (Ws (Wg (Wr 3 tk sg0 rfl rfl tv (Wn (Qn (Wc rfl (fun h3 => ?_) (fun h3 => ?_)))))))))
 ·replace H := of_t H h3
  refine Ws (Wg (Wr 2 tk sg0 rfl rfl tv (Wn (Qn (Wt (QT.r ?_))))))
  cases H
  exact Ea rfl rfl rfl tv
 replace H := of_f H h3
 refine Wk (Qn (Ws (Ws (Wg (Wr 4 tk sg0 rfl rfl tv (Wx 3 3 false tk sg0 rfl rfl (fun _ => tv) (Wr 1 tk sg0 rfl rfl ⟨by first | exact id | exact fun h => by rw [h]; rfl | simp_all, tv⟩ (Wn (Qn (Wc rfl (fun h4 => ?_) (fun h4 => ?_)))))))))))
 ·replace H := of_t H h4
  refine Ws (Hp (.one 1 true (.one 2 true (.one 5 true (.one 6 true (.one 0 false (.one 3 false (.one 4 false (.one 7 true (.one 8 true .done))))))))) [102] [102] rfl (by kernel_rfl) rfl (by kernel_rfl) rfl rfl (fun _ h => h) rfl rfl rfl (fun _ _ _ h => h) fun FK NK wK K => (Hr 4 tk rfl rfl rfl rfl tv ?_))
  obtain ⟨x5, hx5, H⟩ := of_bind H
  refine WH.call [] rfl (ref06_Takes_0 hx5) ref06_Takes_f rfl rfl tv rfl rfl rfl rfl rfl ?_
  obtain ⟨g6, H⟩ := of_need H
  refine WH.val tk rfl rfl rfl rfl rfl ⟨(nIn_ok g6).1, (nIn_ok g6).2, rfl⟩ rfl rfl (WH.val tk rfl rfl rfl rfl rfl tv rfl rfl (Hr 2 tk rfl rfl rfl rfl tv (WH.nil rfl (Qn (Wt (QT.r ?_))))))
  cases H
  exact Ea rfl rfl rfl tv
 replace H := of_f H h4
 refine Wk (Qn (Ws (Hp (.one 1 true (.one 2 true (.one 0 false (.one 3 false (.one 4 false (.one 5 true .done)))))) [102] [102] rfl (by kernel_rfl) rfl (by kernel_rfl) rfl rfl (fun _ h => h) rfl rfl rfl (fun _ _ _ h => h) fun FK NK wK K => (Hr 2 tk rfl rfl rfl rfl tv ?_))))
 obtain ⟨x7, hx7, H⟩ := of_bind H
 refine WH.call [] rfl (ref06_Takes_0 hx7) ref06_Takes_f rfl rfl tv rfl rfl rfl rfl rfl ?_
 obtain ⟨g8, H⟩ := of_need H
 refine WH.val tk rfl rfl rfl rfl rfl ⟨(nIn_ok g8).1, (nIn_ok g8).2, rfl⟩ rfl rfl (WH.val tk rfl rfl rfl rfl rfl tv rfl rfl (Hr 1 tk rfl rfl rfl rfl tv (WH.nil rfl (Qn (Wt ?_)))))
 cases H
 exact Ea rfl rfl rfl tv
theorem ref06_Pops_f : hasFunc Tryd.prog 79 Tryd.f79 := ⟨Tryd.func79, rfl, by kernel_rfl⟩

theorem ref06_Lays_0  {r : List Int} (H : ref06_Lays = some r) : LJ.Spec Tryd.prog 84 [] [] (.d (slT enc_i64 r)) [] := by
 refine LJ.Spec.code Tryd.func84 rfl 2 rfl rfl [] rfl fun w0 F0 S0 B0 => ?_
 unfold ref06_Lays at H
 refine Ws (Wg (Wr 1 tk sg0 rfl rfl tv (Wn (Qn (Ws (Wg (We 101 tk ek eg0 rfl rfl rfl tv (WL.freezeT 101 enc_i64 ([1, 1, 0, 1, 1, 1, 1, 1, 1, 1, 1, 1, 1, 1, 1, 1, 2, 0, 0, 0, 1, 0, 1, 1, 1, 0, 1, 1, 1, 1, 1, 1, 1, 1, 1, 1, 1, 1, 1, 1, 1, 1, 1, 1, 1, 2, 1, 1, 1, 1, 1, 1] : List Int) rfl rfl rfl rfl (Wr 1 tk sg0 rfl rfl tv (Wn (Qn (Wt ?_))))))))))))
 cases H
 exact Ea rfl rfl rfl tv
theorem ref06_Lays_f : hasFunc Tryd.prog 84 Tryd.f84 := ⟨Tryd.func84, rfl, by kernel_rfl⟩

theorem ref06_Pushes_0 (a0 : Int) {r : Int} (H : ref06_Pushes a0 = some r) : LJ.Spec Tryd.prog 80 [.d (.int .i64 a0)] [] (.d (.int .i64 r)) [] := by
 refine LJ.Spec.code Tryd.func80 rfl 10 rfl rfl [] rfl fun w0 F0 S0 B0 => ?_
 unfold ref06_Pushes at H
 refine Ws (Wg (Wr 1 tk sg0 rfl rfl tv (Wn (Qn (Ws (Ws (Wg (Wr 1 tk sg0 rfl rfl tv ?_))))))))
 obtain ⟨x1, hx1, H⟩ := of_bind H
 refine Wf [] (ref06_Known_0 _ hx1) ref06_Known_f rfl rfl tv rfl rfl rfl (Wr 1 tk sg0 rfl rfl tv (Wn (Qn (Wc rfl (fun h2 => ?_) (fun h2 => ?_)))))
 ·replace H := of_t H h2
  refine Ws (Wg (Wr 1 tk sg0 rfl rfl tv (Wn (Qn (Wt (QT.r ?_))))))
  cases H
  exact Ea rfl rfl rfl tv
 replace H := of_f H h2
 refine Wk (Qn (Ws (Wg ?_)))
 obtain ⟨x3, hx3, H⟩ := of_bind H
 refine Wf [] (ref06_Lays_0 hx3) ref06_Lays_f rfl rfl tv rfl rfl rfl ?_
 obtain ⟨g4, H⟩ := of_need H
 refine Wr 4 tk sg0 rfl rfl ⟨⟨(nIn_ok g4).1, (nIn_ok g4).2, rfl⟩, tv⟩ (Wn (Qn (Wt ?_)))
 cases H
 exact Ea rfl rfl rfl tv
theorem ref06_Pushes_f : hasFunc Tryd.prog 80 Tryd.f80 := ⟨Tryd.func80, rfl, by kernel_rfl⟩

theorem ref11_Behind_0 (a0 : T_api_Program) (a1 : T_api_Ins) (a2 : Int) {r : Int} (H : ref11_Behind a0 a1 a2 = some r) : LJ.Spec Tryd.prog 74 [.d (.agg [slT enc_api_Decl a0.Decls, slT enc_sl_sl_api_Need a0.Waits, slT enc_api_Func a0.Funcs]), .d (.agg [.int .i64 a1.Op, .int .i64 a1.A, .int .i64 a1.B]), .d (.int .i64 a2)] [] (.d (.int .i64 r)) [] := by
 refine LJ.Spec.code Tryd.func74 rfl 39 rfl rfl [] rfl fun w0 F0 S0 B0 => ?_
 unfold ref11_Behind at H
 refine Ws (Wg (We 103 tk ek eg0 rfl rfl rfl tv (We 104 tk ek eg0 rfl rfl rfl tv (Wr 1 tk sg0 rfl rfl tv (Wn (Qn (Ws (Wg (Wr 1 tk sg0 rfl rfl tv (Wn (Qn (Ws (Ws (Wg (Wr 4 tk sg0 rfl rfl tv (Wx 6 3 true tk sg0 rfl rfl (fun _ => tv) (Wr 1 tk sg0 rfl rfl ⟨by first | exact id | exact fun h => by rw [h]; rfl | simp_all, tv⟩ (Wn (Qn (Wc rfl (fun h1 => ?_) (fun h1 => ?_)))))))))))))))))))))
 ·replace H := of_t H h1
  refine Wg ?_
  obtain ⟨g2, H⟩ := of_need H
  refine Wr 8 tk sg0 rfl rfl ⟨⟨(nIn_ok g2).1, (nIn_ok g2).2, rfl⟩, tv⟩ (Wn (Qn (Ws (Wg (Wr 3 tk sg0 rfl rfl tv ?_)))))
  obtain ⟨x3, hx3, H⟩ := of_bind H
  refine Wf [] (ref06_Pops_0 _ _ hx3) ref06_Pops_f rfl rfl tv rfl rfl rfl (Wr 2 tk sg0 rfl rfl tv (Wn (Qn (Ws (Ws (Wg (Wr 2 tk sg0 rfl rfl tv (Wn (Qn (Wc rfl (fun h4 => ?_) (fun h4 => ?_)))))))))))
  ·replace H := of_t H h4
   refine Ws (Wg (Wr 1 tk sg0 rfl rfl tv (Wn (Qn (Wt (QT.r ?_))))))
   cases H
   exact Ea rfl rfl rfl tv
  replace H := of_f H h4
  refine Wk (Qn (Ws (Wg (Wr 3 tk sg0 rfl rfl tv ?_))))
  obtain ⟨x5, hx5, H⟩ := of_bind H
  refine Wf [] (ref06_Pushes_0 _ hx5) ref06_Pushes_f rfl rfl tv rfl rfl rfl (Wr 2 tk sg0 rfl rfl tv (Wn (Qn (Wt ?_))))
  cases H
  exact Ea rfl rfl rfl tv
 replace H := of_f H h1
 refine Wk (Qn (Ws (Wg (Wr 3 tk sg0 rfl rfl tv ?_))))
 obtain ⟨x6, hx6, H⟩ := of_bind H
 refine Wf [] (ref06_Pops_0 _ _ hx6) ref06_Pops_f rfl rfl tv rfl rfl rfl (Wr 2 tk sg0 rfl rfl tv (Wn (Qn (Ws (Ws (Wg (Wr 2 tk sg0 rfl rfl tv (Wn (Qn (Wc rfl (fun h7 => ?_) (fun h7 => ?_)))))))))))
 ·replace H := of_t H h7
  refine Ws (Wg (Wr 1 tk sg0 rfl rfl tv (Wn (Qn (Wt (QT.r ?_))))))
  cases H
  exact Ea rfl rfl rfl tv
 replace H := of_f H h7
 refine Wk (Qn (Ws (Wg (Wr 3 tk sg0 rfl rfl tv ?_))))
 obtain ⟨x8, hx8, H⟩ := of_bind H
 refine Wf [] (ref06_Pushes_0 _ hx8) ref06_Pushes_f rfl rfl tv rfl rfl rfl (Wr 2 tk sg0 rfl rfl tv (Wn (Qn (Wt ?_))))
 cases H
 exact Ea rfl rfl rfl tv
theorem ref11_Behind_f : hasFunc Tryd.prog 74 Tryd.f74 := ⟨Tryd.func74, rfl, by kernel_rfl⟩

theorem ref11_ways_0 (a0 : T_api_Ins) (a1 : Int) {r : List Int} (H : ref11_ways a0 a1 = some r) : LJ.Spec Tryd.prog 75 [.d (.agg [.int .i64 a0.Op, .int .i64 a0.A, .int .i64 a0.B]), .d (.int .i64 a1)] [] (.d (slT enc_i64 r)) [] := by
 refine LJ.Spec.code Tryd.func75 rfl 34 rfl rfl [] rfl fun w0 F0 S0 B0 => ?_
 unfold ref11_ways at H
 refine Ws (Wg (We 102 tk ek eg0 rfl rfl rfl tv (Wr 1 tk sg0 rfl rfl tv (Wn (Qn (Ws (Wg (We 106 tk ek eg0 rfl rfl rfl tv (Wr 1 tk sg0 rfl rfl tv (Wn (Qn (Ws (Ws (Wg (Wr 4 tk sg0 rfl rfl tv (Wx 3 3 true tk sg0 rfl rfl (fun _ => tv) (Wr 1 tk sg0 rfl rfl ⟨by first | exact id | exact fun h => by rw [h]; rfl | simp_all, tv⟩ (Wn (Qn (Wc rfl (fun h1 => ?_) (fun h1 => ?_)))))))))))))))))))))
 ·replace H := of_t H h1
  refine Wg (Wr 3 tk sg0 rfl rfl tv (We 118 tk ek eg0 rfl rfl rfl tv (WL.freezeT 118 enc_i64 ([IntKind.i64.wrap (a1 + 1)] : List Int) rfl rfl rfl rfl (WL.row 106 (([] : List Int).map enc_i64) rfl rfl rfl ?_))))
  obtain ⟨g2, H⟩ := of_need H
  refine WL.appT enc_i64 ([] : List Int) ([IntKind.i64.wrap (a1 + 1)] : List Int) tk ek rfl rfl (fun _ => rfl) (fun _ => rfl) rfl rfl rfl rfl (nCap_ok g2) rfl rfl rfl rfl rfl ?_
  refine Wr 1 tk sg0 rfl rfl tv (Wn (Qn (Ws (Ws (Wg (Wr 4 tk sg0 rfl rfl tv (Wx 3 3 false tk sg0 rfl rfl (fun _ => tv) (Wr 1 tk sg0 rfl rfl ⟨by first | exact id | exact fun h => by rw [h]; rfl | simp_all, tv⟩ (Wn (Qn (Wc rfl (fun h3 => ?_) (fun h3 => ?_))))))))))))
  ·replace H := of_t H h3
   refine Wg (Wr 3 tk sg0 rfl rfl tv (We 131 tk ek eg0 rfl rfl rfl tv (WL.freezeT 131 enc_i64 ([a0.A] : List Int) rfl rfl rfl rfl ?_)))
   obtain ⟨g4, H⟩ := of_need H
   refine WL.appT enc_i64 (([] : List Int) ++ ([IntKind.i64.wrap (a1 + 1)] : List Int)) ([a0.A] : List Int) tk ek rfl rfl (fun _ => rfl) (fun _ => rfl) rfl rfl rfl rfl (nCap_ok g4) rfl rfl rfl rfl rfl ?_
   refine Wr 1 tk sg0 rfl rfl tv (Wn (Qn (Ws (Wg (Wr 2 tk sg0 rfl rfl tv (Wn (Qn (WC.freezeT 106 enc_i64 ((([] : List Int) ++ ([IntKind.i64.wrap (a1 + 1)] : List Int)) ++ ([a0.A] : List Int)) rfl rfl rfl rfl (Wt ?_)))))))))
   cases H
   exact Ea rfl rfl rfl tv
  replace H := of_f H h3
  refine Wk (Qn (Ws (Wg (Wr 2 tk sg0 rfl rfl tv (Wn (Qn (WC.freezeT 106 enc_i64 (([] : List Int) ++ ([IntKind.i64.wrap (a1 + 1)] : List Int)) rfl rfl rfl rfl (Wt ?_))))))))
  cases H
  exact Ea rfl rfl rfl tv
 replace H := of_f H h1
 refine Wk (Qn (Ws (Ws (Wg (Wr 4 tk sg0 rfl rfl tv (Wx 3 3 false tk sg0 rfl rfl (fun _ => tv) (Wr 1 tk sg0 rfl rfl ⟨by first | exact id | exact fun h => by rw [h]; rfl | simp_all, tv⟩ (Wn (Qn (Wc rfl (fun h5 => ?_) (fun h5 => ?_)))))))))))
 ·replace H := of_t H h5
  refine Wg (Wr 3 tk sg0 rfl rfl tv (We 131 tk ek eg0 rfl rfl rfl tv (WL.freezeT 131 enc_i64 ([a0.A] : List Int) rfl rfl rfl rfl (WL.row 106 (([] : List Int).map enc_i64) rfl rfl rfl ?_))))
  obtain ⟨g6, H⟩ := of_need H
  refine WL.appT enc_i64 ([] : List Int) ([a0.A] : List Int) tk ek rfl rfl (fun _ => rfl) (fun _ => rfl) rfl rfl rfl rfl (nCap_ok g6) rfl rfl rfl rfl rfl ?_
  refine Wr 1 tk sg0 rfl rfl tv (Wn (Qn (Ws (Wg (Wr 2 tk sg0 rfl rfl tv (Wn (Qn (WC.freezeT 106 enc_i64 (([] : List Int) ++ ([a0.A] : List Int)) rfl rfl rfl rfl (Wt ?_)))))))))
  cases H
  exact Ea rfl rfl rfl tv
 replace H := of_f H h5
 refine Wk (Qn (Ws (Wg (Wr 2 tk sg0 rfl rfl tv (Wn (Qn (WC.freezeT 106 enc_i64 ([] : List Int) rfl rfl rfl rfl (Wt ?_))))))))
 cases H
 exact Ea rfl rfl rfl tv
theorem ref11_ways_f : hasFunc Tryd.prog 75 Tryd.f75 := ⟨Tryd.func75, rfl, by kernel_rfl⟩

theorem ref11_one_0 (a0 : T_api_Program) (a1 : List T_api_Ins) (a2 : List Int) (a3 : Int) {r : Int × (List Int)} (H : ref11_one a0 a1 a2 a3 = some r) : LJ.Spec Tryd.prog 60 [.d (.agg [slT enc_api_Decl a0.Decls, slT enc_sl_sl_api_Need a0.Waits, slT enc_api_Func a0.Funcs]), .d (slT enc_api_Ins a1), .own 0, .d (.int .i64 a3)] [(0, .row 3 1 (a2.map enc_i64))] (.tup [.own 0, .d (.int .i64 r.1)]) [(0, .row 3 1 (r.2.map enc_i64))] := by
 refine LJ.Spec.code Tryd.func60 rfl 77 rfl rfl [] rfl fun w0 F0 S0 B0 => ?_
 unfold ref11_one at H
 refine Ws (Wg (We 104 tk ek eg0 rfl rfl rfl tv (Wr 2 tk sg0 rfl rfl tv (Wn (Qn (Ws (Hp (.one 0 true (.one 1 true (.one 2 true (.one 3 true (.one 4 true (.one 5 true (.one 6 true (.one 7 false (.one 8 false (.one 9 false (.one 10 true .done))))))))))) [104] [104] rfl (by kernel_rfl) rfl (by kernel_rfl) rfl rfl (fun _ h => h) rfl rfl rfl (fun _ _ _ h => h) fun FK NK wK K => ?_)))))))
 obtain ⟨g1, H⟩ := of_need H
 refine Hr 5 tk rfl rfl rfl rfl ⟨⟨(nIn_ok g1).1, (nIn_ok g1).2, rfl⟩, tv⟩ (WH.mv rfl rfl rfl rfl rfl rfl rfl rfl rfl (Hr 1 tk rfl rfl rfl rfl tv ?_))
 obtain ⟨g2, H⟩ := of_need H
 refine WH.yvs rfl (LJ.Y.idxRel enc_i64 a2 a3 tk rfl rfl rfl rfl rfl (nIn_ok g2)) rfl rfl rfl rfl rfl (WH.yvs rfl (LJ.Y.loadRel enc_i64 a2 a3 0 rfl rfl (fun _ => rfl) rfl (by kernel_rfl) rfl (by first | exact nIn_ok g2 | (have := nIn_ok g2; simpa only [List.length_set, List.length_map] using this))) rfl rfl rfl rfl rfl ?_)
 obtain ⟨x3, hx3, H⟩ := of_bind H
 refine WH.call [] rfl (ref11_Behind_0 _ _ _ hx3) ref11_Behind_f rfl rfl tv rfl rfl rfl rfl rfl (Hr 1 tk rfl rfl rfl rfl tv (WH.nil rfl (Qn (Ws (Ws (Wg (Wr 2 tk sg0 rfl rfl tv (Wn (Qn (Wc rfl (fun h4 => ?_) (fun h4 => ?_)))))))))))
 ·replace H := of_t H h4
  refine Ws (Wg (Wr 3 tk sg0 rfl rfl tv (Wn (Qn (Wt (QT.r ?_))))))
  cases H
  exact Ea rfl rfl rfl ⟨rfl, tv⟩
 replace H := of_f H h4
 refine Wk (Qn (Ws (Ws (Wg (Wr 2 tk sg0 rfl rfl tv (Wn (Qn (Wc rfl (fun h5 => ?_) (fun h5 => ?_)))))))))
 ·replace H := of_t H h5
  refine Ws (Wg (Wr 3 tk sg0 rfl rfl tv (Wn (Qn (Wt (QT.r ?_))))))
  cases H
  exact Ea rfl rfl rfl ⟨rfl, tv⟩
 replace H := of_f H h5
 refine Wk (Qn (Ws (Wg ?_)))
 obtain ⟨g6, H⟩ := of_need H
 refine Wr 5 tk sg0 rfl rfl ⟨⟨(nIn_ok g6).1, (nIn_ok g6).2, rfl⟩, tv⟩ ?_
 obtain ⟨x7, hx7, H⟩ := of_bind H
 refine Wf [] (ref11_ways_0 _ _ hx7) ref11_ways_f rfl rfl tv rfl rfl rfl (Wr 1 tk sg0 rfl rfl tv (Wn (Qn (Ws (Ws (Wg (Wr 1 tk sg0 rfl rfl tv (Wn (Qn (Wb (Wl (ι := {x : Nat × (Int × (List Int)) // ref11_one_l9 a1 x3 x7 x.1 x.2 = some r}) (fun x => [(1, .d (slT enc_api_Ins a1)), (2, .own 0), (10, .d (.int .i64 x3)), (11, .d (slT enc_i64 x7)), (12, .d (.int .i64 x.1.2.1))]) (fun x => [(0, .row 3 1 (x.1.2.2.map enc_i64))]) (fun x => x.1.1) ⟨(fuel, (0, a2)), H⟩ (Less.mk' ⟨rfl, rfl, rfl, rfl, rfl, tv⟩ ⟨rfl, tv⟩) fun x => ?_)))))))))))
 obtain ⟨⟨k9, s8⟩, H⟩ := x
 rcases k9 with _ | k9
 ·exact of_none H
 rw [ref11_one_l9] at H
 refine Ws (Ws (Wg (Wr 4 tk sg0 rfl rfl tv (Wn (Qn (Wc rfl (fun h10 => ?_) (fun h10 => ?_)))))))
 ·replace H := of_t H h10
  refine Wk (Qn (Ws (Wb (Ws (Ws (Wg ?_))))))
  obtain ⟨g11, H⟩ := of_need H
  refine Wr 7 tk sg0 rfl rfl ⟨⟨(nIn_ok g11).1, (nIn_ok g11).2, rfl⟩, tv⟩ (Wn (Qn (Wc rfl (fun h12 => ?_) (fun h12 => ?_))))
  ·replace H := of_t H h12
   refine Ws (Wg (Wr 3 tk sg0 rfl rfl tv (Wn (Qn (Wt (QT.r (QB.r (QT.r (QT.r (QB.r (QT.r ?_)))))))))))
   cases H
   exact Ea rfl rfl rfl ⟨rfl, tv⟩
  replace H := of_f H h12
  refine Wk (Qn (Ws (Ws (Wg ?_))))
  obtain ⟨g13, H⟩ := of_need H
  refine Wr 5 tk sg0 rfl rfl ⟨⟨(nIn_ok g13).1, (nIn_ok g13).2, rfl⟩, tv⟩ ?_
  obtain ⟨g14, H⟩ := of_need H
  refine WL.yv (LJ.Y.idxRel enc_i64 s8.2 (x7.getD s8.1.toNat default) tk rfl rfl rfl rfl rfl (nIn_ok g14)) rfl rfl rfl (WL.yv (LJ.Y.loadRel enc_i64 s8.2 (x7.getD s8.1.toNat default) 0 rfl rfl (fun _ => rfl) rfl (by kernel_rfl) rfl (by first | exact nIn_ok g14 | (have := nIn_ok g14; simpa only [List.length_set, List.length_map] using this))) rfl rfl rfl (Wr 2 tk sg0 rfl rfl tv (WL.split (g := 57) rfl (fun h15 => ?_) (fun h15 => ?_))))
  ·replace H := of_t H h15
   obtain ⟨g16, H⟩ := of_need H
   refine WL.grun 5 8 true 57 tk sg0 rfl rfl rfl rfl ⟨⟨(nIn_ok g16).1, (nIn_ok g16).2, rfl⟩, tv⟩ ?_
   obtain ⟨g17, H⟩ := of_need H
   refine WL.gyv (LJ.Y.idxRel enc_i64 s8.2 (x7.getD s8.1.toNat default) tk rfl rfl rfl rfl rfl (nIn_ok g17)) rfl rfl rfl rfl rfl rfl (WL.gyv (LJ.Y.loadRel enc_i64 s8.2 (x7.getD s8.1.toNat default) 0 rfl rfl (fun _ => rfl) rfl (by kernel_rfl) rfl (by first | exact nIn_ok g17 | (have := nIn_ok g17; simpa only [List.length_set, List.length_map] using this))) rfl rfl rfl rfl rfl rfl (WL.grun 2 8 true 57 tk sg0 rfl rfl rfl rfl tv (WL.pickT rfl rfl rfl rfl rfl rfl (Wn (Qn (Wc rfl (fun h18 => ?_) (fun h18 => ?_)))))))
   ·replace H := of_t H h18
    refine Ws (Wg (Wr 3 tk sg0 rfl rfl tv (Wn (Qn (Wt (QT.r (QB.r (QT.r (QT.r (QB.r (QT.r ?_)))))))))))
    cases H
    exact Ea rfl rfl rfl ⟨rfl, tv⟩
   replace H := of_f H h18
   refine Wk (Qn (Wg ?_))
   obtain ⟨g19, H⟩ := of_need H
   refine Wr 6 tk sg0 rfl rfl ⟨⟨(nIn_ok g19).1, (nIn_ok g19).2, rfl⟩, tv⟩ ?_
   obtain ⟨g20, H⟩ := of_need H
   refine WL.yv (LJ.Y.idxRel enc_i64 s8.2 (x7.getD s8.1.toNat default) tk rfl rfl rfl rfl rfl (nIn_ok g20)) rfl rfl rfl (WL.storeRel enc_i64 s8.2 (x7.getD s8.1.toNat default) 0 x3 (.int .i64 x3) rfl rfl rfl rfl (fun _ => rfl) rfl (by kernel_rfl) rfl rfl (by first | exact nIn_ok g20 | (have := nIn_ok g20; simpa only [List.length_set, List.length_map] using this)) rfl rfl rfl rfl ?_)
   refine Wn (Qb (Qn ?_))
   exact Wg (Wr 3 tk sg0 rfl rfl tv (Wn (Qn (⟨⟨(k9, (IntKind.i64.wrap (s8.1 + 1), s8.2.set (x7.getD s8.1.toNat default).toNat x3)), H⟩, Nat.lt_succ_self _, Less.mk' ⟨rfl, rfl, rfl, rfl, rfl, tv⟩ ⟨rfl, tv⟩⟩))))
  ·replace H := of_f H h15
   refine WL.gskips 9 8 true 57 rfl rfl rfl rfl (WL.pickF rfl rfl rfl rfl rfl rfl (Wn (Qn (Wc rfl (fun h => absurd h (by decide)) (fun h => ?_)))))
   refine Wk (Qn (Wg ?_))
   obtain ⟨g21, H⟩ := of_need H
   refine Wr 6 tk sg0 rfl rfl ⟨⟨(nIn_ok g21).1, (nIn_ok g21).2, rfl⟩, tv⟩ ?_
   obtain ⟨g22, H⟩ := of_need H
   refine WL.yv (LJ.Y.idxRel enc_i64 s8.2 (x7.getD s8.1.toNat default) tk rfl rfl rfl rfl rfl (nIn_ok g22)) rfl rfl rfl (WL.storeRel enc_i64 s8.2 (x7.getD s8.1.toNat default) 0 x3 (.int .i64 x3) rfl rfl rfl rfl (fun _ => rfl) rfl (by kernel_rfl) rfl rfl (by first | exact nIn_ok g22 | (have := nIn_ok g22; simpa only [List.length_set, List.length_map] using this)) rfl rfl rfl rfl ?_)
   refine Wn (Qb (Qn ?_))
   exact Wg (Wr 3 tk sg0 rfl rfl tv (Wn (Qn (⟨⟨(k9, (IntKind.i64.wrap (s8.1 + 1), s8.2.set (x7.getD s8.1.toNat default).toNat x3)), H⟩, Nat.lt_succ_self _, Less.mk' ⟨rfl, rfl, rfl, rfl, rfl, tv⟩ ⟨rfl, tv⟩⟩))))
 replace H := of_f H h10
 refine WC.exit (Qx (Qx (Qh (Qn ?_))))
 refine Ws (Wg (Wr 3 tk sg0 rfl rfl tv (Wn (Qn (Wt ?_)))))
 cases H
 exact Ea rfl rfl rfl ⟨rfl, tv⟩
theorem ref11_one_s (n0 : Nat) (hn : nodupB [n0] = true) (a0 : T_api_Program) (a1 : List T_api_Ins) (a2 : List Int) (a3 : Int) {r : Int × (List Int)} (H : ref11_one a0 a1 a2 a3 = some r) : LJ.Spec Tryd.prog 60 [.d (.agg [slT enc_api_Decl a0.Decls, slT enc_sl_sl_api_Need a0.Waits, slT enc_api_Func a0.Funcs]), .d (slT enc_api_Ins a1), .own n0, .d (.int .i64 a3)] [(n0, .row 3 1 (a2.map enc_i64))] (.tup [.own n0, .d (.int .i64 r.1)]) [(n0, .row 3 1 (r.2.map enc_i64))] :=
 Spec.names [n0] hn rfl rfl (ref11_one_0 a0 a1 a2 a3 H)
theorem ref11_one_f : hasFunc Tryd.prog 60 Tryd.f60 := ⟨Tryd.func60, rfl, by kernel_rfl⟩

theorem ref11_Of_0 (a0 : T_api_Program) (a1 : Int) {r : (List Int) × Int × Int} (H : ref11_Of a0 a1 = some r) : LJ.Spec Tryd.prog 41 [.d (.agg [slT enc_api_Decl a0.Decls, slT enc_sl_sl_api_Need a0.Waits, slT enc_api_Func a0.Funcs]), .d (.int .i64 a1)] [] (.tup [.d (slT enc_i64 r.1), .d (.int .i64 r.2.1), .d (.int .i64 r.2.2)]) [] := by
 refine LJ.Spec.code Tryd.func41 rfl 100 rfl rfl [] rfl fun w0 F0 S0 B0 => ?_
 unfold ref11_Of at H
 refine Ws (Wg (We 102 tk ek eg0 rfl rfl rfl tv (Wr 3 tk sg0 rfl rfl tv (Wn (Qn (Ws (Ws (Wg (Wr 3 tk sg0 rfl rfl tv (Wx 5 2 false tk sg0 rfl rfl (fun _ => tv) (Wr 1 tk sg0 rfl rfl ⟨by first | exact id | exact fun h => by rw [h]; rfl | simp_all, tv⟩ (Wn (Qn (Wc rfl (fun h1 => ?_) (fun h1 => ?_)))))))))))))))
 ·replace H := of_t H h1
  refine Ws (Wg (Wr 3 tk sg0 rfl rfl tv (Wn (Qn (WC.nilT 4 enc_i64 rfl (Wt (QT.r ?_)))))))
  cases H
  exact Ea rfl rfl rfl tv
 replace H := of_f H h1
 refine Wk (Qn (Ws (Wg ?_)))
 obtain ⟨g2, H⟩ := of_need H
 refine Wr 7 tk sg0 rfl rfl ⟨⟨(nIn_ok g2).1, (nIn_ok g2).2, rfl⟩, tv⟩ (Wn (Qn (Ws (Ws (Wg (Wr 3 tk sg0 rfl rfl tv (Wn (Qn (Wc rfl (fun h3 => ?_) (fun h3 => ?_))))))))))
 ·replace H := of_t H h3
  refine Ws (Wg (Wr 3 tk sg0 rfl rfl tv (Wn (Qn (WC.nilT 4 enc_i64 rfl (Wt (QT.r ?_)))))))
  cases H
  exact Ea rfl rfl rfl tv
 replace H := of_f H h3
 refine Wk (Qn (Ws ?_))
 obtain ⟨g6_2_1, H⟩ := of_need H
 obtain ⟨g6_5_1, H⟩ := of_need H
 refine WC.heldF [(2, .ptr 102 0), (7, .d (slT enc_api_Ins ((a0.Funcs.getD a1.toNat default).Code))), (8, .own 136), (9, .own 139), (10, .d (.int .i64 (((a0.Funcs.getD a1.toNat default).Code).length : Int))), (11, .d (.int .i64 0))] [(102, .box 26 [.d (slT enc_api_Decl a0.Decls), .d (slT enc_sl_sl_api_Need a0.Waits), .d (slT enc_api_Func a0.Funcs)]), (136, .row 3 1 ((List.replicate (((a0.Funcs.getD a1.toNat default).Code).length : Int).toNat (0 : Int)).map enc_i64)), (139, .row 4 1 ((List.replicate (((a0.Funcs.getD a1.toNat default).Code).length : Int).toNat (false : Bool)).map enc_bool))] (.one 0 true (.one 1 true (.one 3 true (.one 4 true (.one 6 true (.one 7 true (.fork (.one 2 false (.one 8 true (.one 5 false (.one 9 true (.one 10 true (.one 11 true .done)))))) (.one 5 false (.one 2 false (.one 8 true (.one 9 true (.one 10 true (.one 11 true .done))))))))))))) [102] [102] rfl (by kernel_rfl) rfl (by kernel_rfl) rfl rfl (fun _ h => h) rfl rfl rfl (fun FK NK wK K => ?_) ?_
 ·refine Hr 6 tk rfl rfl rfl rfl tv (WH.fork ?_ ?_)
  ·exact WH.makeT (r := 136) enc_i64 (0 : Int) (((a0.Funcs.getD a1.toNat default).Code).length : Int) tk ek rfl rfl rfl rfl rfl rfl rfl rfl (nMk_ok g6_2_1) rfl rfl rfl rfl rfl rfl (WH.mv rfl rfl rfl rfl rfl rfl rfl rfl rfl (WH.makeT (r := 139) enc_bool (false : Bool) (((a0.Funcs.getD a1.toNat default).Code).length : Int) tk ek rfl rfl rfl rfl rfl rfl rfl rfl (nMk_ok g6_5_1) rfl rfl rfl rfl rfl rfl (WH.mv rfl rfl rfl rfl rfl rfl rfl rfl rfl (Hr 2 tk rfl rfl rfl rfl tv (Hn rfl (LessW.mk' ⟨Ao rfl, Ao rfl, Ao rfl, Ao rfl, Ao rfl, Ao rfl, tv⟩ ⟨rfl, rfl, rfl, tv⟩))))))
  ·exact WH.makeT (r := 139) enc_bool (false : Bool) (((a0.Funcs.getD a1.toNat default).Code).length : Int) tk ek rfl rfl rfl rfl rfl rfl rfl rfl (nMk_ok g6_5_1) rfl rfl rfl rfl rfl rfl (WH.makeT (r := 136) enc_i64 (0 : Int) (((a0.Funcs.getD a1.toNat default).Code).length : Int) tk ek rfl rfl rfl rfl rfl rfl rfl rfl (nMk_ok g6_2_1) rfl rfl rfl rfl rfl rfl (WH.mv rfl rfl rfl rfl rfl rfl rfl rfl rfl (WH.mv rfl rfl rfl rfl rfl rfl rfl rfl rfl (Hr 2 tk rfl rfl rfl rfl tv (Hn rfl (LessW.mk' ⟨Ao rfl, Ao rfl, Ao rfl, Ao rfl, Ao rfl, Ao rfl, tv⟩ ⟨rfl, rfl, rfl, tv⟩))))))
 ·refine Qn (Ws (Ws (Wg (Wr 1 tk sg0 rfl rfl tv (Wn (Qn (Wb (Wl (ι := {x : Nat × (Int × (List Int)) // ref11_Of_l5 a0 a1 x.1 x.2 = some r}) (fun x => [(2, .ptr 102 0), (7, .d (slT enc_api_Ins ((a0.Funcs.getD a1.toNat default).Code))), (8, .own 136), (9, .own 139), (10, .d (.int .i64 (((a0.Funcs.getD a1.toNat default).Code).length : Int))), (11, .d (.int .i64 0)), (12, .d (.int .i64 x.1.2.1))]) (fun x => [(102, .box 26 [.d (slT enc_api_Decl a0.Decls), .d (slT enc_sl_sl_api_Need a0.Waits), .d (slT enc_api_Func a0.Funcs)]), (136, .row 3 1 (x.1.2.2.map enc_i64)), (139, .row 4 1 ((List.replicate (((a0.Funcs.getD a1.toNat default).Code).length : Int).toNat (false : Bool)).map enc_bool))]) (fun x => x.1.1) ⟨(fuel, (1, List.replicate (((a0.Funcs.getD a1.toNat default).Code).length : Int).toNat (0 : Int))), H⟩ (Less.mk' ⟨rfl, rfl, rfl, rfl, rfl, rfl, rfl, tv⟩ ⟨rfl, rfl, rfl, tv⟩) fun x => ?_))))))))
  obtain ⟨⟨k5, s4⟩, H⟩ := x
  rcases k5 with _ | k5
  ·exact of_none H
  rw [ref11_Of_l5] at H
  refine Ws (Ws (Wg (Wr 4 tk sg0 rfl rfl tv (Wn (Qn (Wc rfl (fun h6 => ?_) (fun h6 => ?_)))))))
  ·replace H := of_t H h6
   refine Wk (Qn (Ws (Wb (Wg (Wr 2 tk sg0 rfl rfl tv ?_)))))
   obtain ⟨g7, H⟩ := of_need H
   refine WL.yv (LJ.Y.idxRel enc_i64 s4.2 s4.1 tk rfl rfl rfl rfl rfl (nIn_ok g7)) rfl rfl rfl (WL.storeRel enc_i64 s4.2 s4.1 0 (-1) (.int .i64 (-1)) rfl rfl rfl rfl (fun _ => rfl) rfl (by kernel_rfl) rfl rfl (by first | exact nIn_ok g7 | (have := nIn_ok g7; simpa only [List.length_set, List.length_map] using this)) rfl rfl rfl rfl ?_)
   refine Wn (Qb (Qn ?_))
   exact Wg (Wr 3 tk sg0 rfl rfl tv (Wn (Qn (⟨⟨(k5, (IntKind.i64.wrap (s4.1 + 1), s4.2.set s4.1.toNat (-1))), H⟩, Nat.lt_succ_self _, Less.mk' ⟨rfl, rfl, rfl, rfl, rfl, rfl, rfl, tv⟩ ⟨rfl, rfl, rfl, tv⟩⟩))))
  replace H := of_f H h6
  refine WC.exit (Qx (Qx (Qh (Qn ?_))))
  obtain ⟨K8, hK8, H⟩ := of_withK H
  refine WC.cut (fun E m => ∃ s9 : Int × Int × (List Int), K8 s9 = some r ∧ LessW E m [(8, .own 136), (10, .d (.int .i64 s9.1)), (11, .d (.int .i64 s9.2.1))] [(136, .row 3 1 (s9.2.2.map enc_i64))]) ?_ ?_
  ·refine Wb (Wl (ι := {x : Nat × (Int × Int × (List Int) × (List Bool)) // ref11_Of_l11 a0 a1 K8 x.1 x.2 = some r}) (fun x => [(2, .ptr 102 0), (7, .d (slT enc_api_Ins ((a0.Funcs.getD a1.toNat default).Code))), (8, .own 136), (9, .own 139), (10, .d (.int .i64 x.1.2.1)), (11, .d (.int .i64 x.1.2.2.1))]) (fun x => [(102, .box 26 [.d (slT enc_api_Decl a0.Decls), .d (slT enc_sl_sl_api_Need a0.Waits), .d (slT enc_api_Func a0.Funcs)]), (136, .row 3 1 (x.1.2.2.2.1.map enc_i64)), (139, .row 4 1 (x.1.2.2.2.2.map enc_bool))]) (fun x => x.1.1) ⟨(fuel, ((((a0.Funcs.getD a1.toNat default).Code).length : Int), 0, s4.2, List.replicate (((a0.Funcs.getD a1.toNat default).Code).length : Int).toNat (false : Bool))), H⟩ (Less.mk' ⟨rfl, rfl, rfl, rfl, rfl, rfl, tv⟩ ⟨rfl, rfl, rfl, tv⟩) fun x => ?_)
   obtain ⟨⟨k11, s10⟩, H⟩ := x
   rcases k11 with _ | k11
   ·exact of_none H
   rw [ref11_Of_l11] at H
   refine Wb (Ws (Wg (Wr 1 tk sg0 rfl rfl tv (Wn (Qn ?_)))))
   obtain ⟨K12, hK12, H⟩ := of_withK H
   refine WC.cut (fun E m => ∃ s13 : Int, K12 s13 = some r ∧ LessW E m [(2, .ptr 102 0), (7, .d (slT enc_api_Ins ((a0.Funcs.getD a1.toNat default).Code))), (8, .own 136), (9, .own 139), (10, .d (.int .i64 s10.1)), (11, .d (.int .i64 s10.2.1)), (13, .d (.int .i64 s13))] [(102, .box 26 [.d (slT enc_api_Decl a0.Decls), .d (slT enc_sl_sl_api_Need a0.Waits), .d (slT enc_api_Func a0.Funcs)]), (136, .row 3 1 (s10.2.2.1.map enc_i64)), (139, .row 4 1 (s10.2.2.2.map enc_bool))]) ?_ ?_
   ·refine Wb (Wl (ι := {x : Nat × Int // ref11_Of_l15 a0 a1 s10 K12 x.1 x.2 = some r}) (fun x => [(2, .ptr 102 0), (7, .d (slT enc_api_Ins ((a0.Funcs.getD a1.toNat default).Code))), (8, .own 136), (9, .own 139), (10, .d (.int .i64 s10.1)), (11, .d (.int .i64 s10.2.1)), (13, .d (.int .i64 x.1.2))]) (fun x => [(102, .box 26 [.d (slT enc_api_Decl a0.Decls), .d (slT enc_sl_sl_api_Need a0.Waits), .d (slT enc_api_Func a0.Funcs)]), (136, .row 3 1 (s10.2.2.1.map enc_i64)), (139, .row 4 1 (s10.2.2.2.map enc_bool))]) (fun x => x.1.1) ⟨(fuel, 0), H⟩ (Less.mk' ⟨rfl, rfl, rfl, rfl, rfl, rfl, rfl, tv⟩ ⟨rfl, rfl, rfl, tv⟩) fun x => ?_)
    obtain ⟨⟨k15, s14⟩, H⟩ := x
    rcases k15 with _ | k15
    ·exact of_none H
    rw [ref11_Of_l15] at H
    refine Ws (Ws (Wg (Wr 5 tk sg0 rfl rfl tv (WL.split (g := 55) rfl (fun h16 => ?_) (fun h16 => ?_)))))
    ·replace H := of_t H h16
     refine WL.grun 2 4 true 55 tk sg0 rfl rfl rfl rfl tv ?_
     obtain ⟨g17, H⟩ := of_need H
     refine WL.gyv (LJ.Y.idxRel enc_bool s10.2.2.2 s14 tk rfl rfl rfl rfl rfl (nIn_ok g17)) rfl rfl rfl rfl rfl rfl (WL.gyv (LJ.Y.loadRel enc_bool s10.2.2.2 s14 0 rfl rfl (fun _ => rfl) rfl (by kernel_rfl) rfl (by first | exact nIn_ok g17 | (have := nIn_ok g17; simpa only [List.length_set, List.length_map] using this))) rfl rfl rfl rfl rfl rfl (WL.grun 1 4 true 55 tk sg0 rfl rfl rfl rfl tv (WL.split (g := 60) rfl (fun h18 => ?_) (fun h18 => ?_))))
     ·replace H := of_t H h18
      refine WL.gskips 5 9 false 60 rfl rfl rfl rfl (WL.gpickT rfl rfl rfl rfl rfl rfl rfl rfl rfl (WL.pickT rfl rfl rfl rfl rfl rfl (Wn (Qn (Wc rfl (fun h => ?_) (fun h => absurd h (by decide)))))))
      refine Wk (Qn (Wb (Wg (Wr 3 tk sg0 rfl rfl tv (Wn (Qb (Qn ?_)))))))
      exact ⟨⟨(k15, IntKind.i64.wrap (s14 + 1)), H⟩, Nat.lt_succ_self _, Less.mk' ⟨rfl, rfl, rfl, rfl, rfl, rfl, rfl, tv⟩ ⟨rfl, rfl, rfl, tv⟩⟩
     ·replace H := of_f H h18
      refine WL.grun 2 9 false 60 tk sg0 rfl rfl rfl rfl tv ?_
      obtain ⟨g19, H⟩ := of_need H
      refine WL.gyv (LJ.Y.idxRel enc_i64 s10.2.2.1 s14 tk rfl rfl rfl rfl rfl (nIn_ok g19)) rfl rfl rfl rfl rfl rfl (WL.gyv (LJ.Y.loadRel enc_i64 s10.2.2.1 s14 0 rfl rfl (fun _ => rfl) rfl (by kernel_rfl) rfl (by first | exact nIn_ok g19 | (have := nIn_ok g19; simpa only [List.length_set, List.length_map] using this))) rfl rfl rfl rfl rfl rfl (WL.grun 1 9 false 60 tk sg0 rfl rfl rfl rfl tv (WL.gpickF rfl rfl rfl rfl rfl rfl rfl rfl rfl (WL.pickT rfl rfl rfl rfl rfl rfl (Wn (Qn (Wc rfl (fun h20 => ?_) (fun h20 => ?_))))))))
      ·replace H := of_t H h20
       refine Wk (Qn (Wb (Wg (Wr 3 tk sg0 rfl rfl tv (Wn (Qb (Qn ?_)))))))
       exact ⟨⟨(k15, IntKind.i64.wrap (s14 + 1)), H⟩, Nat.lt_succ_self _, Less.mk' ⟨rfl, rfl, rfl, rfl, rfl, rfl, rfl, tv⟩ ⟨rfl, rfl, rfl, tv⟩⟩
      replace H := of_f H h20
      refine WC.exit (Qx (Qx (Qh (Qn ?_))))
      exact ⟨s14, H, LessW.mk' ⟨Ao rfl, Ao rfl, Ao rfl, Ao rfl, Ao rfl, Ao rfl, Ao rfl, tv⟩ ⟨rfl, rfl, rfl, tv⟩⟩
    ·replace H := of_f H h16
     refine WL.gskips 5 4 true 55 rfl rfl rfl rfl (WL.gskips 5 9 false 60 rfl rfl rfl rfl (WL.gskips 1 4 true 55 rfl rfl rfl rfl (WL.pickF rfl rfl rfl rfl rfl rfl (Wn (Qn (Wc rfl (fun h => absurd h (by decide)) (fun h => ?_)))))))
     refine WC.exit (Qx (Qx (Qh (Qn ?_))))
     exact ⟨s14, H, LessW.mk' ⟨Ao rfl, Ao rfl, Ao rfl, Ao rfl, Ao rfl, Ao rfl, Ao rfl, tv⟩ ⟨rfl, rfl, rfl, tv⟩⟩
   ·rintro E m ⟨s13, H, hl⟩
    refine WC.lessW hl ?_
    replace H := (hK12 _).symm.trans H
    try dsimp only at H
    refine Ws (Ws (Wg (Wr 4 tk sg0 rfl rfl tv (Wn (Qn (Wc rfl (fun h21 => ?_) (fun h21 => ?_)))))))
    ·replace H := of_t H h21
     refine WC.exit (Qx (QB.miss rfl (Qx (Qh (Qn ?_)))))
     exact ⟨(s10.1, s10.2.1, s10.2.2.1), H, LessW.mk' ⟨Ao rfl, Ao rfl, Ao rfl, tv⟩ ⟨rfl, tv⟩⟩
    replace H := of_f H h21
    refine Wk (Qn (Ws (Wg (Wr 4 tk sg0 rfl rfl tv ?_))))
    obtain ⟨x22, hx22, H⟩ := of_bind H
    refine Wf [136] (ref11_one_s 136 rfl _ _ _ _ hx22) ref11_one_f rfl rfl ⟨rfl, tv⟩ rfl rfl rfl (Wr 5 tk sg0 rfl rfl tv (Wn (Qn (Ws (Wg (Wr 4 tk sg0 rfl rfl tv ?_))))))
    obtain ⟨g23, H⟩ := of_need H
    refine WL.yv (LJ.Y.idxRel enc_bool s10.2.2.2 s13 tk rfl rfl rfl rfl rfl (nIn_ok g23)) rfl rfl rfl (WL.storeRel enc_bool s10.2.2.2 s13 0 true (.bool true) rfl rfl rfl rfl (fun _ => rfl) rfl (by kernel_rfl) rfl rfl (by first | exact nIn_ok g23 | (have := nIn_ok g23; simpa only [List.length_set, List.length_map] using this)) rfl rfl rfl rfl ?_)
    refine Wn (Qn (Ws (Wg (Wr 3 tk sg0 rfl rfl tv (Wx 3 2 true tk sg0 rfl rfl (fun _ => tv) (Wr 1 tk sg0 rfl rfl ⟨by first | exact id | exact fun h => by rw [h]; rfl | simp_all, tv⟩ (Wn (Qn (Wc rfl (fun h24 => ?_) (fun h24 => ?_))))))))))
    ·replace H := of_t H h24
     refine Wg (Wr 4 tk sg0 rfl rfl tv (Wn (Qb (Qn ?_))))
     exact ⟨⟨(k11, (s13, x22.1, x22.2, s10.2.2.2.set s13.toNat true)), H⟩, Nat.lt_succ_self _, Less.mk' ⟨rfl, rfl, rfl, rfl, rfl, rfl, tv⟩ ⟨rfl, rfl, rfl, tv⟩⟩
    replace H := of_f H h24
    refine Wk (Qb (Qn ?_))
    exact ⟨⟨(k11, (s10.1, s10.2.1, x22.2, s10.2.2.2.set s13.toNat true)), H⟩, Nat.lt_succ_self _, Less.mk' ⟨rfl, rfl, rfl, rfl, rfl, rfl, tv⟩ ⟨rfl, rfl, rfl, tv⟩⟩
  ·rintro E m ⟨s9, H, hl⟩
   refine WC.lessW hl ?_
   replace H := (hK8 _).symm.trans H
   try dsimp only at H
   refine Ws (Ws (Wg (Wr 2 tk sg0 rfl rfl tv (Wn (Qn (Wc rfl (fun h25 => ?_) (fun h25 => ?_)))))))
   ·replace H := of_t H h25
    refine Ws (Wg (Wr 5 tk sg0 rfl rfl tv (Wn (Qn (WC.nilT 4 enc_i64 rfl (Wt (QT.r ?_)))))))
    cases H
    exact Ea rfl rfl rfl tv
   replace H := of_f H h25
   refine Wk (Qn (Ws (Wg (Wr 4 tk sg0 rfl rfl tv (Wn (Qn (WC.freezeT 136 enc_i64 s9.2.2 rfl rfl rfl rfl (Wt ?_))))))))
   cases H
   exact Ea rfl rfl rfl tv
theorem ref11_Of_f : hasFunc Tryd.prog 41 Tryd.f41 := ⟨Tryd.func41, rfl, by kernel_rfl⟩

end Go.Proofs.YthgjdnknjofdjaaDoor.W
