/- Each Go function comes to what its plain function gives, where that gives something. -/
import Derived.Test.YthgjdnknjofdjaaDoorPF
import Derived.Test.YthgjdnknjofdjaaDoorSq
import Derived.Test.YthgjdnknjofdjaaDoorProg
import Derived.Test.YthgjdnknjofdjaaDoorXByt
import Derived.Test.YthgjdnknjofdjaaDoorXMak
import Derived.Test.YthgjdnknjofdjaaDoorXQue
namespace Go.Proofs.YthgjdnknjofdjaaDoor.W
open Go Go.RowKit LJ
set_option linter.unusedVariables false
set_option linter.unusedSimpArgs false
set_option maxRecDepth 10000
/-- The types that the walks meet. -/
def tt : List (Nat × TK) := [(3, .int .i64), (4, .bool), (5, .int .u8), (9, .str), (21, .int .i32), (22, .slice 48 3), (23, .slice 52 1), (24, .slice 44 3), (26, .struct 3 [(0, 1, true), (1, 1, true), (2, 1, true)] [.nils, .nils, .nils]), (29, .int .u64), (32, .slice 3 1), (37, .struct 2 [(0, 1, true), (1, 1, true)] [.int .i64 0, .int .i64 0]), (38, .int .i64), (42, .slice 46 3), (44, .struct 3 [(0, 1, true), (1, 1, true), (2, 1, true)] [.int .i64 0, .int .i64 0, .nils]), (46, .struct 3 [(0, 1, true), (1, 1, true), (2, 1, true)] [.int .i64 0, .int .i64 0, .int .i64 0]), (48, .struct 3 [(0, 1, true), (1, 1, true), (2, 1, true)] [.int .i64 0, .int .i64 0, .int .i64 0]), (52, .slice 67 1), (55, .int .u64), (67, .slice 70 3), (70, .struct 3 [(0, 1, true), (1, 1, true), (2, 1, true)] [.int .i64 0, .int .i64 0, .int .i64 0]), (76, .arr 2 2 3 1), (77, .slice 5 1), (92, .slice 9 1), (94, .ptr), (95, .slice 4 1), (97, .struct 8 [(0, 3, false), (3, 1, true), (4, 1, true), (5, 1, true), (6, 1, true), (7, 1, true)] [.nils, .nils, .nils, .nils, .nils, .nils, .int .i64 0, .int .i64 0]), (108, .int .u64), (109, .arr 64 64 5 1), (110, .arr 256 256 5 1), (112, .one), (119, .slice 32 1), (123, .int .u32), (125, .ptr), (126, .slice 132 3), (127, .slice 135 3), (129, .struct 3 [(0, 1, true), (1, 1, true), (2, 1, true)] [.nils, .nils, .int .i64 0]), (130, .int .u16), (132, .struct 3 [(0, 1, true), (1, 1, true), (2, 1, true)] [.int .u16 0, .int .u16 0, .int .u16 0]), (135, .struct 3 [(0, 1, true), (1, 1, true), (2, 1, true)] [.int .u32 0, .int .u32 0, .int .u32 0]), (137, .ptr), (138, .ptr)]
theorem tk : ttOK Tryd.prog tt = true := by kernel_rfl
/-- Elements of the slices that are appended to: cells, bytes. -/
def et : List (Nat × Nat × Nat) := [(3, 1, 8), (4, 1, 1), (5, 1, 1), (9, 1, 16), (32, 1, 24), (44, 3, 40), (46, 3, 24), (48, 3, 24), (52, 1, 24), (67, 1, 24), (70, 3, 24), (132, 3, 6), (135, 3, 12)]
theorem ek : etOK Tryd.prog et = true := by kernel_rfl
def sg0 : List (PSig Tryd.prog) := []
def eg0 : List (ESig Tryd.prog) := []
theorem ref03_Fits_0 (a0 : Int) {r : Bool} (H : ref03_Fits a0 = some r) : LJ.Spec Tryd.prog 42 [.d (.int .i64 a0)] [] (.d (.bool r)) [] := by
 refine LJ.Spec.code Tryd.func42 rfl 9 rfl rfl [] rfl fun w0 F0 S0 B0 => ?_
 unfold ref03_Fits at H
 refine Ws (Wg (Wr 1 tk sg0 rfl rfl tv (Wn (Qn (Ws (Wg (Wr 3 tk sg0 rfl rfl tv (Wx 2 2 true tk sg0 rfl rfl (fun _ => tv) (Wr 2 tk sg0 rfl rfl ⟨by first | exact id | exact fun h => by rw [h]; rfl | simp_all, tv⟩ (Wn (Qn (Wt ?_))))))))))))
 cases H
 exact Ea rfl rfl rfl tv
theorem ref03_Fits_f : hasFunc Tryd.prog 42 Tryd.f42 := ⟨Tryd.func42, rfl, by kernel_rfl⟩

theorem ref08_kinds_0 (a0 : Int) {r : List Int} (H : ref08_kinds a0 = some r) : LJ.Spec Tryd.prog 61 [.d (.int .u8 a0)] [] (.d (slT enc_i64 r)) [] := by
 refine LJ.Spec.code Tryd.func61 rfl 30 rfl rfl [] rfl fun w0 F0 S0 B0 => ?_
 unfold ref08_kinds at H
 refine Ws (Wg (Wr 1 tk sg0 rfl rfl tv (Wn (Qn (Ws (Wg (Wr 1 tk sg0 rfl rfl tv (Wn (Qn (Ws (Wg (We 106 tk ek eg0 rfl rfl rfl tv (WL.freezeT 106 enc_i64 ([1, 2] : List Int) rfl rfl rfl rfl (We 107 tk ek eg0 rfl rfl rfl tv (WL.freezeT 107 enc_i64 ([3] : List Int) rfl rfl rfl rfl (We 108 tk ek eg0 rfl rfl rfl tv (WL.freezeT 108 enc_i64 ([6] : List Int) rfl rfl rfl rfl (We 109 tk ek eg0 rfl rfl rfl tv ?_))))))))))))))))))
 refine WL.freezeT 109 enc_i64 ([4] : List Int) rfl rfl rfl rfl (We 110 tk ek eg0 rfl rfl rfl tv (WL.freezeT 110 enc_i64 ([1] : List Int) rfl rfl rfl rfl (We 111 tk ek eg0 rfl rfl rfl tv (WL.freezeT 111 enc_i64 ([5] : List Int) rfl rfl rfl rfl (We 112 tk ek eg0 rfl rfl rfl tv (WL.freezeT 112 enc_i64 ([7] : List Int) rfl rfl rfl rfl (We 113 tk ek eg0 rfl rfl rfl tv (WL.freezeT 113 enc_i64 ([1, 6] : List Int) rfl rfl rfl rfl ?_))))))))
 refine We 114 tk ek eg0 rfl rfl rfl tv (WL.freezeT 114 enc_sl_i64 ([([1, 2] : List Int), ([3] : List Int), ([6] : List Int), ([4] : List Int), ([1] : List Int), ([5] : List Int), ([7] : List Int), ([1, 6] : List Int)] : List (List Int)) rfl rfl rfl rfl (Wr 1 tk sg0 rfl rfl tv (Wn (Qn (Ws (Ws (Wg (Wr 1 tk sg0 rfl rfl tv (Wn (Qn (Wb (Wl (ι := {x : Nat × Int // ref08_kinds_l2 a0 x.1 x.2 = some r}) (fun x => [(0, .d (.int .u8 a0)), (3, .d (.str (⟨#[117, 115, 112, 99, 109, 98, 118, 113]⟩ : ByteArray))), (4, .d (slT enc_sl_i64 ([([1, 2] : List Int), ([3] : List Int), ([6] : List Int), ([4] : List Int), ([1] : List Int), ([5] : List Int), ([7] : List Int), ([1, 6] : List Int)] : List (List Int)))), (5, .d (.int .i64 x.1.2))]) (fun x => []) (fun x => x.1.1) ⟨(fuel, 0), H⟩ (Less.mk' ⟨rfl, rfl, rfl, rfl, tv⟩ tv) fun x => ?_))))))))))))
 obtain ⟨⟨k2, s1⟩, H⟩ := x
 rcases k2 with _ | k2
 ·exact of_none H
 rw [ref08_kinds_l2] at H
 refine Ws (Ws (Wg (Wr 4 tk sg0 rfl rfl tv (Wn (Qn (Wc rfl (fun h3 => ?_) (fun h3 => ?_)))))))
 ·replace H := of_t H h3
  refine Wk (Qn (Ws (Wb (Ws (Wg ?_)))))
  obtain ⟨g4, H⟩ := of_need H
  refine Wr 5 tk sg0 rfl rfl ⟨(nIn_ok g4), tv⟩ (Wn (Qn (Wc rfl (fun h5 => ?_) (fun h5 => ?_))))
  ·replace H := of_t H h5
   refine Ws (Wg ?_)
   obtain ⟨g6, H⟩ := of_need H
   refine Wr 5 tk sg0 rfl rfl ⟨⟨(nIn_ok g6).1, (nIn_ok g6).2, rfl⟩, tv⟩ (Wn (Qn (Wt (QB.r (QT.r (QT.r (QB.r (QT.r ?_))))))))
   cases H
   exact Ea rfl rfl rfl tv
  replace H := of_f H h5
  refine Wk (Qb (Qn ?_))
  exact Wg (Wr 3 tk sg0 rfl rfl tv (Wn (Qn (⟨⟨(k2, IntKind.i64.wrap (s1 + 1)), H⟩, Nat.lt_succ_self _, Less.mk' ⟨rfl, rfl, rfl, rfl, tv⟩ tv⟩))))
 replace H := of_f H h3
 refine WC.exit (Qx (Qx (Qh (Qn ?_))))
 refine Ws (Wg (Wr 1 tk sg0 rfl rfl tv (Wn (Qn (WC.nilT 2 enc_i64 rfl (Wt ?_))))))
 cases H
 exact Ea rfl rfl rfl tv
theorem ref08_kinds_f : hasFunc Tryd.prog 61 Tryd.f61 := ⟨Tryd.func61, rfl, by kernel_rfl⟩

theorem ref08_Fits_0 (a0 : List T_api_Decl) (a1 : Int) (a2 : Int) {r : Bool} (H : ref08_Fits a0 a1 a2 = some r) : LJ.Spec Tryd.prog 43 [.d (slT enc_api_Decl a0), .d (.int .u8 a1), .d (.int .i64 a2)] [] (.d (.bool r)) [] := by
 refine LJ.Spec.code Tryd.func43 rfl 37 rfl rfl [] rfl fun w0 F0 S0 B0 => ?_
 unfold ref08_Fits at H
 refine Ws (Wg (Wr 1 tk sg0 rfl rfl tv (Wn (Qn (Ws (Wg (Wr 1 tk sg0 rfl rfl tv ?_)))))))
 obtain ⟨x1, hx1, H⟩ := of_bind H
 refine Wf [] (ref08_kinds_0 _ hx1) ref08_kinds_f rfl rfl tv rfl rfl rfl (Wr 1 tk sg0 rfl rfl tv (Wn (Qn (Ws (Ws (Wg (Wr 1 tk sg0 rfl rfl tv (Wn (Qn (Wb (Wl (ι := {x : Nat × Int // ref08_Fits_l3 a0 a2 x1 x.1 x.2 = some r}) (fun x => [(0, .d (slT enc_api_Decl a0)), (2, .d (.int .i64 a2)), (7, .d (slT enc_i64 x1)), (8, .d (.int .i64 x.1.2))]) (fun x => []) (fun x => x.1.1) ⟨(fuel, 0), H⟩ (Less.mk' ⟨rfl, rfl, rfl, rfl, tv⟩ tv) fun x => ?_)))))))))))
 obtain ⟨⟨k3, s2⟩, H⟩ := x
 rcases k3 with _ | k3
 ·exact of_none H
 rw [ref08_Fits_l3] at H
 refine Ws (Ws (Wg (Wr 5 tk sg0 rfl rfl tv (Wx 2 4 true tk sg0 rfl rfl (fun _ => tv) (Wr 2 tk sg0 rfl rfl ⟨by first | exact id | exact fun h => by rw [h]; rfl | simp_all, tv⟩ (Wx 4 8 true tk sg0 rfl rfl (fun _ => tv) (Wr 1 tk sg0 rfl rfl ⟨by first | exact id | exact fun h => by rw [h]; rfl | simp_all, tv⟩ (Wn (Qn (Wc rfl (fun h4 => ?_) (fun h4 => ?_)))))))))))
 ·replace H := of_t H h4
  refine Wk (Qn (Ws (Wb (Ws (Hp (.one 0 true (.one 1 true (.one 2 true (.one 3 true (.one 4 true (.one 5 true (.one 6 true (.one 7 true (.one 8 true (.one 9 true .done)))))))))) [] [] rfl (by kernel_rfl) rfl (by kernel_rfl) rfl rfl (fun _ h => h) rfl rfl rfl (fun _ _ _ h => h) fun FK NK wK K => ?_)))))
  obtain ⟨g5, H⟩ := of_need H
  obtain ⟨g6, H⟩ := of_need H
  refine Hr 10 tk rfl rfl rfl rfl ⟨⟨(nIn_ok g5).1, (nIn_ok g5).2, rfl⟩, ⟨(nIn_ok g6).1, (nIn_ok g6).2, rfl⟩, tv⟩ (WH.nil rfl (Qn (Wc rfl (fun h7 => ?_) (fun h7 => ?_))))
  ·replace H := of_t H h7
   refine Ws (Wg (Wr 1 tk sg0 rfl rfl tv (Wn (Qn (Wt (QB.r (QT.r (QT.r (QB.r (QT.r ?_))))))))))
   cases H
   exact Ea rfl rfl rfl tv
  replace H := of_f H h7
  refine Wk (Qb (Qn ?_))
  exact Wg (Wr 3 tk sg0 rfl rfl tv (Wn (Qn (⟨⟨(k3, IntKind.i64.wrap (s2 + 1)), H⟩, Nat.lt_succ_self _, Less.mk' ⟨rfl, rfl, rfl, rfl, tv⟩ tv⟩))))
 replace H := of_f H h4
 refine WC.exit (Qx (Qx (Qh (Qn ?_))))
 refine Ws (Wg (Wr 1 tk sg0 rfl rfl tv (Wn (Qn (Wt ?_)))))
 cases H
 exact Ea rfl rfl rfl tv
theorem ref08_Fits_f : hasFunc Tryd.prog 43 Tryd.f43 := ⟨Tryd.func43, rfl, by kernel_rfl⟩

theorem ref08_one_0 (a0 : List T_api_Decl) (a1 : T_api_Decl) {r : Int} (H : ref08_one a0 a1 = some r) : LJ.Spec Tryd.prog 26 [.d (slT enc_api_Decl a0), .d (.agg [.int .i64 a1.Kind, .int .i64 a1.A, .int .i64 a1.B])] [] (.d (.int .i64 r)) [] := by
 refine LJ.Spec.code Tryd.func26 rfl 100 rfl rfl [] rfl fun w0 F0 S0 B0 => ?_
 unfold ref08_one at H
 refine Ws (Wg (We 103 tk ek eg0 rfl rfl rfl tv (Wr 1 tk sg0 rfl rfl tv (Wn (Qn (Ws (Ws (Wg (Wr 4 tk sg0 rfl rfl tv (Wx 3 3 false tk sg0 rfl rfl (fun _ => tv) (Wr 1 tk sg0 rfl rfl ⟨by first | exact id | exact fun h => by rw [h]; rfl | simp_all, tv⟩ (Wn (Qn (Wc rfl (fun h1 => ?_) (fun h1 => ?_)))))))))))))))
 ·replace H := of_t H h1
  refine Ws (Wg (Wr 1 tk sg0 rfl rfl tv (Wn (Qn (Wt (QT.r ?_))))))
  cases H
  exact Ea rfl rfl rfl tv
 replace H := of_f H h1
 refine Wk (Qn (Ws (Ws (Wg (Wr 4 tk sg0 rfl rfl tv (Wx 4 3 true tk sg0 rfl rfl (fun _ => tv) (Wx 3 7 false tk sg0 rfl rfl (fun _ => tv) (Wx 2 3 true tk sg0 rfl rfl (fun hb => ⟨by first | exact id | exact ⟨hb, fun h => by rw [hb, h]; rfl⟩ | exact ⟨hb, id⟩ | exact fun h => by rw [hb, h]; rfl | exact fun h => by rw [h]; rfl | simp_all, tv⟩) (Wx 3 12 false tk sg0 rfl rfl (fun _ => tv) (Wx 2 3 true tk sg0 rfl rfl (fun hb => ⟨by first | exact id | exact ⟨hb, fun h => by rw [hb, h]; rfl⟩ | exact ⟨hb, id⟩ | exact fun h => by rw [hb, h]; rfl | exact fun h => by rw [h]; rfl | simp_all, tv⟩) (Wx 5 17 false tk sg0 rfl rfl (fun _ => tv) (Wx 1 3 true tk sg0 rfl rfl (fun hb => ⟨by first | exact id | exact ⟨hb, fun h => by rw [hb, h]; rfl⟩ | exact ⟨hb, id⟩ | exact fun h => by rw [hb, h]; rfl | exact fun h => by rw [h]; rfl | simp_all, tv⟩) (Wr 1 tk sg0 rfl rfl ⟨by first | exact id | exact fun h => by rw [h]; rfl | simp_all, tv⟩ ?_)))))))))))))
 refine Wn (Qn (Wc rfl (fun h2 => ?_) (fun h2 => ?_)))
 ·replace H := of_t H h2
  refine Ws (Wg (Wr 1 tk sg0 rfl rfl tv (Wn (Qn (Wt (QT.r ?_))))))
  cases H
  exact Ea rfl rfl rfl tv
 replace H := of_f H h2
 refine Wk (Qn (Ws (Ws (Wg (Wr 4 tk sg0 rfl rfl tv (Wx 4 3 true tk sg0 rfl rfl (fun _ => tv) (Wx 3 7 false tk sg0 rfl rfl (fun _ => tv) (Wx 1 3 true tk sg0 rfl rfl (fun hb => ⟨by first | exact id | exact ⟨hb, fun h => by rw [hb, h]; rfl⟩ | exact ⟨hb, id⟩ | exact fun h => by rw [hb, h]; rfl | exact fun h => by rw [h]; rfl | simp_all, tv⟩) (Wr 1 tk sg0 rfl rfl ⟨by first | exact id | exact fun h => by rw [h]; rfl | simp_all, tv⟩ (Wn (Qn (Wc rfl (fun h3 => ?_) (fun h3 => ?_)))))))))))))
 ·replace H := of_t H h3
  refine Ws (Wg (Wr 1 tk sg0 rfl rfl tv (Wn (Qn (Wt (QT.r ?_))))))
  cases H
  exact Ea rfl rfl rfl tv
 replace H := of_f H h3
 refine Wk (Qn (Ws (Ws (Wg (Wr 4 tk sg0 rfl rfl tv ?_)))))
 obtain ⟨x4, hx4, H⟩ := of_bind H
 refine Wx 5 3 true tk [PSig.at' ref03_Fits_f ((iEq a1.Kind 7) = true) rfl (fun hb => ref03_Fits_0 _ (of_t hx4 hb))] rfl rfl (fun hb => ⟨⟨hb, rfl⟩, tv⟩) ?_
 obtain ⟨x5, hx5, H⟩ := of_bind H
 refine Wx 5 8 false tk [PSig.at' ref08_Fits_f (((iEq a1.Kind 7) && !(!x4)) = true) rfl (fun hb => ref08_Fits_0 _ _ _ (of_t hx5 hb))] rfl rfl (fun hb => ⟨⟨hb, rfl⟩, tv⟩) (Wx 1 3 true tk sg0 rfl rfl (fun hb => ⟨by first | exact id | exact ⟨hb, fun h => by rw [hb, h]; rfl⟩ | exact ⟨hb, id⟩ | exact fun h => by rw [hb, h]; rfl | exact fun h => by rw [h]; rfl | simp_all, tv⟩) (Wr 1 tk sg0 rfl rfl ⟨by first | exact id | exact fun h => by rw [h]; rfl | simp_all, tv⟩ (Wn (Qn (Wc rfl (fun h6 => ?_) (fun h6 => ?_))))))
 ·replace H := of_t H h6
  refine Ws (Wg (Wr 1 tk sg0 rfl rfl tv (Wn (Qn (Wt (QT.r ?_))))))
  cases H
  exact Ea rfl rfl rfl tv
 replace H := of_f H h6
 refine Wk (Qn (Ws (Ws (Wg (Wr 4 tk sg0 rfl rfl tv (Wx 3 3 true tk sg0 rfl rfl (fun _ => tv) (Wr 2 tk sg0 rfl rfl ⟨by first | exact id | exact fun h => by rw [h]; rfl | simp_all, tv⟩ (Wx 3 8 true tk sg0 rfl rfl (fun _ => tv) (Wr 2 tk sg0 rfl rfl ⟨by first | exact id | exact fun h => by rw [h]; rfl | simp_all, tv⟩ (Wx 4 13 false tk sg0 rfl rfl (fun _ => tv) (Wx 3 17 true tk sg0 rfl rfl (fun _ => tv) (Wx 2 13 false tk sg0 rfl rfl (fun hb => ⟨by first | exact id | exact ⟨hb, fun h => by rw [hb, h]; rfl⟩ | exact ⟨hb, id⟩ | exact fun h => by rw [hb, h]; rfl | exact fun h => by rw [h]; rfl | simp_all, tv⟩) (Wx 3 22 true tk sg0 rfl rfl (fun _ => tv) ?_)))))))))))))
 refine Wx 2 13 false tk sg0 rfl rfl (fun hb => ⟨by first | exact id | exact ⟨hb, fun h => by rw [hb, h]; rfl⟩ | exact ⟨hb, id⟩ | exact fun h => by rw [hb, h]; rfl | exact fun h => by rw [h]; rfl | simp_all, tv⟩) (Wx 3 27 true tk sg0 rfl rfl (fun _ => tv) (Wx 1 13 false tk sg0 rfl rfl (fun hb => ⟨by first | exact id | exact ⟨hb, fun h => by rw [hb, h]; rfl⟩ | exact ⟨hb, id⟩ | exact fun h => by rw [hb, h]; rfl | exact fun h => by rw [h]; rfl | simp_all, tv⟩) (Wr 1 tk sg0 rfl rfl ⟨by first | exact id | exact fun h => by rw [h]; rfl | simp_all, tv⟩ (Wn (Qn (Wc rfl (fun h7 => ?_) (fun h7 => ?_)))))))
 ·replace H := of_t H h7
  refine Ws (Wg (Wr 1 tk sg0 rfl rfl tv (Wn (Qn (Wt (QT.r ?_))))))
  cases H
  exact Ea rfl rfl rfl tv
 replace H := of_f H h7
 refine Wk (Qn (Ws (Wg (Wr 1 tk sg0 rfl rfl tv (Wn (Qn (Wt ?_)))))))
 cases H
 exact Ea rfl rfl rfl tv
theorem ref08_one_f : hasFunc Tryd.prog 26 Tryd.f26 := ⟨Tryd.func26, rfl, by kernel_rfl⟩

theorem ref08_Check_0 (a0 : List T_api_Decl) {r : Int × Int} (H : ref08_Check a0 = some r) : LJ.Spec Tryd.prog 14 [.d (slT enc_api_Decl a0)] [] (.tup [.d (.int .i64 r.1), .d (.int .i64 r.2)]) [] := by
 refine LJ.Spec.code Tryd.func14 rfl 25 rfl rfl [] rfl fun w0 F0 S0 B0 => ?_
 unfold ref08_Check at H
 refine Ws (Wg (Wr 2 tk sg0 rfl rfl tv (Wn (Qn (Ws (Ws (Wg (Wr 3 tk sg0 rfl rfl tv (Wn (Qn (Wc rfl (fun h1 => ?_) (fun h1 => ?_))))))))))))
 ·replace H := of_t H h1
  refine Ws (Wg (Wr 2 tk sg0 rfl rfl tv (Wn (Qn (Wt (QT.r ?_))))))
  cases H
  exact Ea rfl rfl rfl tv
 replace H := of_f H h1
 refine Wk (Qn (Ws (Ws (Wg (Wr 1 tk sg0 rfl rfl tv (Wn (Qn (Wb (Wl (ι := {x : Nat × Int // ref08_Check_l3 a0 x.1 x.2 = some r}) (fun x => [(0, .d (slT enc_api_Decl a0)), (4, .d (.int .i64 x.1.2))]) (fun x => []) (fun x => x.1.1) ⟨(fuel, 0), H⟩ (Less.mk' ⟨rfl, rfl, tv⟩ tv) fun x => ?_)))))))))
 obtain ⟨⟨k3, s2⟩, H⟩ := x
 rcases k3 with _ | k3
 ·exact of_none H
 rw [ref08_Check_l3] at H
 refine Ws (Ws (Wg (Wr 4 tk sg0 rfl rfl tv (Wn (Qn (Wc rfl (fun h4 => ?_) (fun h4 => ?_)))))))
 ·replace H := of_t H h4
  refine Wk (Qn (Ws (Wb (Ws (Wg ?_)))))
  obtain ⟨g5, H⟩ := of_need H
  refine Wr 5 tk sg0 rfl rfl ⟨⟨(nIn_ok g5).1, (nIn_ok g5).2, rfl⟩, tv⟩ ?_
  obtain ⟨x6, hx6, H⟩ := of_bind H
  refine Wf [] (ref08_one_0 _ _ hx6) ref08_one_f rfl rfl tv rfl rfl rfl (Wr 1 tk sg0 rfl rfl tv (Wn (Qn (Ws (Wg (Wr 2 tk sg0 rfl rfl tv (Wn (Qn (Wc rfl (fun h7 => ?_) (fun h7 => ?_))))))))))
  ·replace H := of_t H h7
   refine Ws (Wg (Wr 4 tk sg0 rfl rfl tv (Wn (Qn (Wt (QB.r (QT.r (QT.r (QB.r (QT.r ?_))))))))))
   cases H
   exact Ea rfl rfl rfl tv
  replace H := of_f H h7
  refine Wk (Qb (Qn ?_))
  exact Wg (Wr 3 tk sg0 rfl rfl tv (Wn (Qn (⟨⟨(k3, IntKind.i64.wrap (s2 + 1)), H⟩, Nat.lt_succ_self _, Less.mk' ⟨rfl, rfl, tv⟩ tv⟩))))
 replace H := of_f H h4
 refine WC.exit (Qx (Qx (Qh (Qn ?_))))
 refine Ws (Wg (Wr 2 tk sg0 rfl rfl tv (Wn (Qn (Wt ?_)))))
 cases H
 exact Ea rfl rfl rfl tv
theorem ref08_Check_f : hasFunc Tryd.prog 14 Tryd.f14 := ⟨Tryd.func14, rfl, by kernel_rfl⟩

theorem ref09_one_0 (a0 : List T_api_Decl) (a1 : T_api_Need) {r : Int} (H : ref09_one a0 a1 = some r) : LJ.Spec Tryd.prog 27 [.d (slT enc_api_Decl a0), .d (.agg [.int .i64 a1.Kind, .int .i64 a1.Obj, .int .i64 a1.N])] [] (.d (.int .i64 r)) [] := by
 refine LJ.Spec.code Tryd.func27 rfl 69 rfl rfl [] rfl fun w0 F0 S0 B0 => ?_
 unfold ref09_one at H
 refine Ws (Wg (We 103 tk ek eg0 rfl rfl rfl tv (Wr 1 tk sg0 rfl rfl tv (Wn (Qn (Ws (Ws (Wg (Wr 4 tk sg0 rfl rfl tv (Wx 3 3 false tk sg0 rfl rfl (fun _ => tv) (Wr 1 tk sg0 rfl rfl ⟨by first | exact id | exact fun h => by rw [h]; rfl | simp_all, tv⟩ (Wn (Qn (Wc rfl (fun h1 => ?_) (fun h1 => ?_)))))))))))))))
 ·replace H := of_t H h1
  refine Ws (Wg (Wr 1 tk sg0 rfl rfl tv (Wn (Qn (Wt (QT.r ?_))))))
  cases H
  exact Ea rfl rfl rfl tv
 replace H := of_f H h1
 refine Wk (Qn (Ws (Wg (We 116 tk ek eg0 rfl rfl rfl tv (WL.freezeT 116 enc_i64 ([0, 1, 2, 2, 3, 6] : List Int) rfl rfl rfl rfl (Wr 1 tk sg0 rfl rfl tv (Wn (Qn (Ws (Ws (Hp (.one 0 true (.one 1 true (.one 2 true (.one 3 true (.one 4 true (.one 5 true (.one 6 true (.one 7 true (.one 8 true (.one 9 true (.one 10 true (.one 11 true (.one 12 true (.one 13 true (.one 14 true (.one 15 true (.one 16 true (.one 17 true (.one 18 true (.one 19 true (.one 20 true (.one 21 true (.one 22 true (.one 23 true .done)))))))))))))))))))))))) [103] [103] rfl (by kernel_rfl) rfl (by kernel_rfl) rfl rfl (fun _ h => h) rfl rfl rfl (fun _ _ _ h => h) fun FK NK wK K => (Hr 4 tk rfl rfl rfl rfl tv (WH.sect 5 3 false tk rfl rfl rfl rfl (fun _ => tv) (Hr 2 tk rfl rfl rfl rfl ⟨by first | exact id | exact fun h => by rw [h]; rfl | simp_all, tv⟩ ?_))))))))))))))
 obtain ⟨g2, H⟩ := of_needS H
 obtain ⟨g3, H⟩ := of_needS H
 refine WH.sect 12 10 false tk rfl rfl rfl rfl (fun hb => ⟨⟨(nIn_ok (g2 hb)).1, (nIn_ok (g2 hb)).2, rfl⟩, ⟨(nIn_ok (g3 hb)).1, (nIn_ok (g3 hb)).2, rfl⟩, tv⟩) (Hr 1 tk rfl rfl rfl rfl ⟨by first | exact id | exact fun h => by rw [h]; rfl | simp_all, tv⟩ (WH.nil rfl (Qn (Wc rfl (fun h4 => ?_) (fun h4 => ?_)))))
 ·replace H := of_t H h4
  refine Ws (Wg (Wr 1 tk sg0 rfl rfl tv (Wn (Qn (Wt (QT.r ?_))))))
  cases H
  exact Ea rfl rfl rfl tv
 replace H := of_f H h4
 refine Wk (Qn (Ws (Wg (Wr 2 tk sg0 rfl rfl tv (Wn (Qn (Ws (Ws (Wg (Wr 3 tk sg0 rfl rfl tv (Wn (Qn (Wc rfl (fun h5 => ?_) (fun h5 => ?_))))))))))))))
 ·replace H := of_t H h5
  refine Hp (.one 0 true (.one 1 true (.one 2 true (.one 3 true (.one 4 true (.one 5 true (.one 6 true (.one 7 true .done)))))))) [103] [103] rfl (by kernel_rfl) rfl (by kernel_rfl) rfl rfl (fun _ h => h) rfl rfl rfl (fun _ _ _ h => h) fun FK NK wK K => ?_
  obtain ⟨g6, H⟩ := of_need H
  refine Hr 8 tk rfl rfl rfl rfl ⟨⟨(nIn_ok g6).1, (nIn_ok g6).2, rfl⟩, tv⟩ (WH.nil rfl (Qn (Ws (Ws (Wg (Wr 3 tk sg0 rfl rfl tv (Wn (Qn (Wc rfl (fun h7 => ?_) (fun h7 => ?_))))))))))
  ·replace H := of_t H h7
   refine Hp (.one 0 true (.one 1 true (.one 2 true (.one 3 true (.one 4 true (.one 5 true (.one 6 true (.one 7 true .done)))))))) [103] [103] rfl (by kernel_rfl) rfl (by kernel_rfl) rfl rfl (fun _ h => h) rfl rfl rfl (fun _ _ _ h => h) fun FK NK wK K => ?_
   obtain ⟨g8, H⟩ := of_need H
   refine Hr 8 tk rfl rfl rfl rfl ⟨⟨(nIn_ok g8).1, (nIn_ok g8).2, rfl⟩, tv⟩ (WH.nil rfl (Qn (Ws (Ws (Wg (Wr 5 tk sg0 rfl rfl tv (Wx 4 4 false tk sg0 rfl rfl (fun _ => tv) (Wr 1 tk sg0 rfl rfl ⟨by first | exact id | exact fun h => by rw [h]; rfl | simp_all, tv⟩ (Wn (Qn (Wc rfl (fun h9 => ?_) (fun h9 => ?_))))))))))))
   ·replace H := of_t H h9
    refine Ws (Wg (Wr 1 tk sg0 rfl rfl tv (Wn (Qn (Wt (QT.r ?_))))))
    cases H
    exact Ea rfl rfl rfl tv
   replace H := of_f H h9
   refine Wk (Qn (Ws (Wg (Wr 1 tk sg0 rfl rfl tv (Wn (Qn (Wt ?_)))))))
   cases H
   exact Ea rfl rfl rfl tv
  replace H := of_f H h7
  refine Wk (Qn (Ws (Ws (Wg (Wr 5 tk sg0 rfl rfl tv (Wx 4 4 false tk sg0 rfl rfl (fun _ => tv) (Wr 1 tk sg0 rfl rfl ⟨by first | exact id | exact fun h => by rw [h]; rfl | simp_all, tv⟩ (Wn (Qn (Wc rfl (fun h10 => ?_) (fun h10 => ?_)))))))))))
  ·replace H := of_t H h10
   refine Ws (Wg (Wr 1 tk sg0 rfl rfl tv (Wn (Qn (Wt (QT.r ?_))))))
   cases H
   exact Ea rfl rfl rfl tv
  replace H := of_f H h10
  refine Wk (Qn (Ws (Wg (Wr 1 tk sg0 rfl rfl tv (Wn (Qn (Wt ?_)))))))
  cases H
  exact Ea rfl rfl rfl tv
 replace H := of_f H h5
 refine Wk (Qn (Ws (Ws (Wg (Wr 3 tk sg0 rfl rfl tv (Wn (Qn (Wc rfl (fun h11 => ?_) (fun h11 => ?_)))))))))
 ·replace H := of_t H h11
  refine Hp (.one 0 true (.one 1 true (.one 2 true (.one 3 true (.one 4 true (.one 5 true (.one 6 true (.one 7 true .done)))))))) [103] [103] rfl (by kernel_rfl) rfl (by kernel_rfl) rfl rfl (fun _ h => h) rfl rfl rfl (fun _ _ _ h => h) fun FK NK wK K => ?_
  obtain ⟨g12, H⟩ := of_need H
  refine Hr 8 tk rfl rfl rfl rfl ⟨⟨(nIn_ok g12).1, (nIn_ok g12).2, rfl⟩, tv⟩ (WH.nil rfl (Qn (Ws (Ws (Wg (Wr 5 tk sg0 rfl rfl tv (Wx 4 4 false tk sg0 rfl rfl (fun _ => tv) (Wr 1 tk sg0 rfl rfl ⟨by first | exact id | exact fun h => by rw [h]; rfl | simp_all, tv⟩ (Wn (Qn (Wc rfl (fun h13 => ?_) (fun h13 => ?_))))))))))))
  ·replace H := of_t H h13
   refine Ws (Wg (Wr 1 tk sg0 rfl rfl tv (Wn (Qn (Wt (QT.r ?_))))))
   cases H
   exact Ea rfl rfl rfl tv
  replace H := of_f H h13
  refine Wk (Qn (Ws (Wg (Wr 1 tk sg0 rfl rfl tv (Wn (Qn (Wt ?_)))))))
  cases H
  exact Ea rfl rfl rfl tv
 replace H := of_f H h11
 refine Wk (Qn (Ws (Ws (Wg (Wr 5 tk sg0 rfl rfl tv (Wx 4 4 false tk sg0 rfl rfl (fun _ => tv) (Wr 1 tk sg0 rfl rfl ⟨by first | exact id | exact fun h => by rw [h]; rfl | simp_all, tv⟩ (Wn (Qn (Wc rfl (fun h14 => ?_) (fun h14 => ?_)))))))))))
 ·replace H := of_t H h14
  refine Ws (Wg (Wr 1 tk sg0 rfl rfl tv (Wn (Qn (Wt (QT.r ?_))))))
  cases H
  exact Ea rfl rfl rfl tv
 replace H := of_f H h14
 refine Wk (Qn (Ws (Wg (Wr 1 tk sg0 rfl rfl tv (Wn (Qn (Wt ?_)))))))
 cases H
 exact Ea rfl rfl rfl tv
theorem ref09_one_f : hasFunc Tryd.prog 27 Tryd.f27 := ⟨Tryd.func27, rfl, by kernel_rfl⟩

theorem ref09_Check_0 (a0 : List T_api_Decl) (a1 : List (List T_api_Need)) {r : Int} (H : ref09_Check a0 a1 = some r) : LJ.Spec Tryd.prog 15 [.d (slT enc_api_Decl a0), .d (slT enc_sl_api_Need a1)] [] (.d (.int .i64 r)) [] := by
 refine LJ.Spec.code Tryd.func15 rfl 86 rfl rfl [] rfl fun w0 F0 S0 B0 => ?_
 unfold ref09_Check at H
 refine Ws (Wg (Wr 1 tk sg0 rfl rfl tv (Wn (Qn (Ws (Ws (Wg (Wr 3 tk sg0 rfl rfl tv (Wn (Qn (Wc rfl (fun h1 => ?_) (fun h1 => ?_))))))))))))
 ·replace H := of_t H h1
  refine Ws (Wg (Wr 1 tk sg0 rfl rfl tv (Wn (Qn (Wt (QT.r ?_))))))
  cases H
  exact Ea rfl rfl rfl tv
 replace H := of_f H h1
 refine Wk (Qn (Ws (Ws (Wg (Wr 3 tk sg0 rfl rfl tv (Wn (Qn (Wc rfl (fun h2 => ?_) (fun h2 => ?_)))))))))
 ·replace H := of_t H h2
  refine Ws (Wg (Wr 1 tk sg0 rfl rfl tv (Wn (Qn (Wt (QT.r ?_))))))
  cases H
  exact Ea rfl rfl rfl tv
 replace H := of_f H h2
 refine Wk (Qn (Ws (Ws (Wg (Wr 1 tk sg0 rfl rfl tv (Wn (Qn (Wb (Wl (ι := {x : Nat × Int // ref09_Check_l4 a0 a1 x.1 x.2 = some r}) (fun x => [(0, .d (slT enc_api_Decl a0)), (1, .d (slT enc_sl_api_Need a1)), (5, .d (.int .i64 x.1.2))]) (fun x => []) (fun x => x.1.1) ⟨(fuel, 0), H⟩ (Less.mk' ⟨rfl, rfl, rfl, tv⟩ tv) fun x => ?_)))))))))
 obtain ⟨⟨k4, s3⟩, H⟩ := x
 rcases k4 with _ | k4
 ·exact of_none H
 rw [ref09_Check_l4] at H
 refine Ws (Ws (Wg (Wr 4 tk sg0 rfl rfl tv (Wn (Qn (Wc rfl (fun h5 => ?_) (fun h5 => ?_)))))))
 ·replace H := of_t H h5
  refine Wk (Qn ?_)
  obtain ⟨K6, hK6, H⟩ := of_withK H
  refine WC.cut (fun E m => ∃ s7 : Unit, K6 s7 = some r ∧ LessW E m [(0, .d (slT enc_api_Decl a0)), (1, .d (slT enc_sl_api_Need a1)), (5, .d (.int .i64 s3))] []) ?_ ?_
  ·refine Wb (Ws (Wg ?_))
   obtain ⟨g8, H⟩ := of_need H
   refine Wr 5 tk sg0 rfl rfl ⟨⟨(nIn_ok g8).1, (nIn_ok g8).2, rfl⟩, tv⟩ (Wn (Qn (Ws (Ws (Wg (Wr 3 tk sg0 rfl rfl tv (Wn (Qn (Wc rfl (fun h9 => ?_) (fun h9 => ?_))))))))))
   ·replace H := of_t H h9
    refine Ws (Wg (Wr 1 tk sg0 rfl rfl tv (Wn (Qn (Wt (QT.r (QB.r (QT.r (QT.r (QB.r (QT.r ?_)))))))))))
    cases H
    exact Ea rfl rfl rfl tv
   replace H := of_f H h9
   refine Wk (Qn (Ws (Ws (Wg (Wr 3 tk sg0 rfl rfl tv (Wn (Qn (Wc rfl (fun h10 => ?_) (fun h10 => ?_)))))))))
   ·replace H := of_t H h10
    refine Ws (Wg (Wr 1 tk sg0 rfl rfl tv (Wn (Qn (Wt (QT.r (QB.r (QT.r (QT.r (QB.r (QT.r ?_)))))))))))
    cases H
    exact Ea rfl rfl rfl tv
   replace H := of_f H h10
   refine Wk (Qn (Ws (Ws (Wg (Wr 1 tk sg0 rfl rfl tv (Wn (Qn (Wb (Wl (ι := {x : Nat × Int // ref09_Check_l12 a0 a1 s3 K6 x.1 x.2 = some r}) (fun x => [(0, .d (slT enc_api_Decl a0)), (1, .d (slT enc_sl_api_Need a1)), (5, .d (.int .i64 s3)), (6, .d (slT enc_api_Need (a1.getD s3.toNat default))), (7, .d (.int .i64 x.1.2))]) (fun x => []) (fun x => x.1.1) ⟨(fuel, 0), H⟩ (Less.mk' ⟨rfl, rfl, rfl, rfl, rfl, tv⟩ tv) fun x => ?_)))))))))
   obtain ⟨⟨k12, s11⟩, H⟩ := x
   rcases k12 with _ | k12
   ·exact of_none H
   rw [ref09_Check_l12] at H
   refine Ws (Ws (Wg (Wr 4 tk sg0 rfl rfl tv (Wn (Qn (Wc rfl (fun h13 => ?_) (fun h13 => ?_)))))))
   ·replace H := of_t H h13
    refine Wk (Qn (Ws (Wb (Ws (Wg ?_)))))
    obtain ⟨g14, H⟩ := of_need H
    refine Wr 5 tk sg0 rfl rfl ⟨⟨(nIn_ok g14).1, (nIn_ok g14).2, rfl⟩, tv⟩ ?_
    obtain ⟨x15, hx15, H⟩ := of_bind H
    refine Wf [] (ref09_one_0 _ _ hx15) ref09_one_f rfl rfl tv rfl rfl rfl (Wr 1 tk sg0 rfl rfl tv (Wn (Qn (Ws (Wg (Wr 2 tk sg0 rfl rfl tv (Wn (Qn (Wc rfl (fun h16 => ?_) (fun h16 => ?_))))))))))
    ·replace H := of_t H h16
     refine Ws (Wg (Wr 2 tk sg0 rfl rfl tv (Wn (Qn (Wt (QB.r (QT.r (QT.r (QB.r (QT.r (QB.r (QT.r (QT.r (QB.r (QT.r ?_)))))))))))))))
     cases H
     exact Ea rfl rfl rfl tv
    replace H := of_f H h16
    refine Wk (Qb (Qn ?_))
    exact Wg (Wr 3 tk sg0 rfl rfl tv (Wn (Qn (⟨⟨(k12, IntKind.i64.wrap (s11 + 1)), H⟩, Nat.lt_succ_self _, Less.mk' ⟨rfl, rfl, rfl, rfl, rfl, tv⟩ tv⟩))))
   replace H := of_f H h13
   refine WC.exit (Qx (Qx (Qh (Qn ?_))))
   refine Ws (Wg (Wr 1 tk sg0 rfl rfl tv (Wn (Qn (Wb (Wl (ι := {x : Nat × Int // ref09_Check_l18 a1 s3 K6 x.1 x.2 = some r}) (fun x => [(0, .d (slT enc_api_Decl a0)), (1, .d (slT enc_sl_api_Need a1)), (5, .d (.int .i64 s3)), (6, .d (slT enc_api_Need (a1.getD s3.toNat default))), (9, .d (.int .i64 x.1.2))]) (fun x => []) (fun x => x.1.1) ⟨(fuel, 0), H⟩ (Less.mk' ⟨rfl, rfl, rfl, rfl, rfl, tv⟩ tv) fun x => ?_))))))
   obtain ⟨⟨k18, s17⟩, H⟩ := x
   rcases k18 with _ | k18
   ·exact of_none H
   rw [ref09_Check_l18] at H
   refine Ws (Ws (Wg (Wr 4 tk sg0 rfl rfl tv (Wn (Qn (Wc rfl (fun h19 => ?_) (fun h19 => ?_)))))))
   ·replace H := of_t H h19
    refine Wk (Qn ?_)
    obtain ⟨K20, hK20, H⟩ := of_withK H
    refine WC.cut (fun E m => ∃ s21 : Unit, K20 s21 = some r ∧ LessW E m [(0, .d (slT enc_api_Decl a0)), (1, .d (slT enc_sl_api_Need a1)), (5, .d (.int .i64 s3)), (6, .d (slT enc_api_Need (a1.getD s3.toNat default))), (9, .d (.int .i64 s17))] []) ?_ ?_
    ·refine Wb (Ws (Wg (Wr 1 tk sg0 rfl rfl tv (Wn (Qn (Wb (Wl (ι := {x : Nat × Int // ref09_Check_l23 a1 s3 s17 K20 x.1 x.2 = some r}) (fun x => [(0, .d (slT enc_api_Decl a0)), (1, .d (slT enc_sl_api_Need a1)), (5, .d (.int .i64 s3)), (6, .d (slT enc_api_Need (a1.getD s3.toNat default))), (9, .d (.int .i64 s17)), (10, .d (.int .i64 x.1.2))]) (fun x => []) (fun x => x.1.1) ⟨(fuel, 0), H⟩ (Less.mk' ⟨rfl, rfl, rfl, rfl, rfl, rfl, tv⟩ tv) fun x => ?_)))))))
     obtain ⟨⟨k23, s22⟩, H⟩ := x
     rcases k23 with _ | k23
     ·exact of_none H
     rw [ref09_Check_l23] at H
     refine Ws (Ws (Wg (Wr 3 tk sg0 rfl rfl tv (Wn (Qn (Wc rfl (fun h24 => ?_) (fun h24 => ?_)))))))
     ·replace H := of_t H h24
      refine Wk (Qn (Ws (Wb (Ws (Hp (.one 0 true (.one 1 true (.one 2 true (.one 3 true (.one 4 true (.one 5 true (.one 6 true (.one 7 true (.one 8 true (.one 9 true (.one 10 true (.one 11 true (.one 12 true (.one 13 true (.one 14 true (.one 15 true (.one 16 true (.one 17 true (.one 18 true (.one 19 true (.one 20 true (.one 21 true (.one 22 true (.one 23 true (.one 24 true (.one 25 true (.one 26 true .done))))))))))))))))))))))))))) [] [] rfl (by kernel_rfl) rfl (by kernel_rfl) rfl rfl (fun _ h => h) rfl rfl rfl (fun _ _ _ h => h) fun FK NK wK K => ?_)))))
      obtain ⟨g25, H⟩ := of_need H
      obtain ⟨g26, H⟩ := of_need H
      refine Hr 12 tk rfl rfl rfl rfl ⟨⟨(nIn_ok g25).1, (nIn_ok g25).2, rfl⟩, ⟨(nIn_ok g26).1, (nIn_ok g26).2, rfl⟩, tv⟩ ?_
      obtain ⟨g27, H⟩ := of_needS H
      refine WH.sect 6 11 false tk rfl rfl rfl rfl (fun hb => ⟨⟨(nIn_ok (g27 hb)).1, (nIn_ok (g27 hb)).2, rfl⟩, tv⟩) (Hr 2 tk rfl rfl rfl rfl ⟨by first | exact id | exact fun h => by rw [h]; rfl | simp_all, tv⟩ ?_)
      obtain ⟨g28, H⟩ := of_needS H
      refine WH.sect 6 19 false tk rfl rfl rfl rfl (fun hb => ⟨⟨(nIn_ok (g28 hb)).1, (nIn_ok (g28 hb)).2, rfl⟩, tv⟩) (Hr 1 tk rfl rfl rfl rfl ⟨by first | exact id | exact fun h => by rw [h]; rfl | simp_all, tv⟩ (WH.nil rfl (Qn (Wc rfl (fun h29 => ?_) (fun h29 => ?_)))))
      ·replace H := of_t H h29
       refine Ws (Wg (Wr 1 tk sg0 rfl rfl tv (Wn (Qn (Wt (QB.r (QT.r (QT.r (QB.r (QB.r (QT.r (QT.r (QB.r (QB.r (QT.r (QT.r (QB.r (QT.r ?_))))))))))))))))))
       cases H
       exact Ea rfl rfl rfl tv
      replace H := of_f H h29
      refine Wk (Qb (Qn ?_))
      exact Wg (Wr 3 tk sg0 rfl rfl tv (Wn (Qn (⟨⟨(k23, IntKind.i64.wrap (s22 + 1)), H⟩, Nat.lt_succ_self _, Less.mk' ⟨rfl, rfl, rfl, rfl, rfl, rfl, tv⟩ tv⟩))))
     replace H := of_f H h24
     refine WC.exit (Qx (Qx (Qh (Qb (Qn ?_)))))
     exact ⟨Unit.unit, H, LessW.mk' ⟨Ao rfl, Ao rfl, Ao rfl, Ao rfl, Ao rfl, tv⟩ tv⟩
    ·rintro E m ⟨s21, H, hl⟩
     refine WC.lessW hl ?_
     replace H := (hK20 _).symm.trans H
     try dsimp only at H
     exact Wg (Wr 3 tk sg0 rfl rfl tv (Wn (Qn (⟨⟨(k18, IntKind.i64.wrap (s17 + 1)), H⟩, Nat.lt_succ_self _, Less.mk' ⟨rfl, rfl, rfl, rfl, rfl, tv⟩ tv⟩))))
   replace H := of_f H h19
   refine WC.exit (Qx (Qx (Qh (Qb (Qn ?_)))))
   exact ⟨Unit.unit, H, LessW.mk' ⟨Ao rfl, Ao rfl, Ao rfl, tv⟩ tv⟩
  ·rintro E m ⟨s7, H, hl⟩
   refine WC.lessW hl ?_
   replace H := (hK6 _).symm.trans H
   try dsimp only at H
   exact Wg (Wr 3 tk sg0 rfl rfl tv (Wn (Qn (⟨⟨(k4, IntKind.i64.wrap (s3 + 1)), H⟩, Nat.lt_succ_self _, Less.mk' ⟨rfl, rfl, rfl, tv⟩ tv⟩))))
 replace H := of_f H h5
 refine WC.exit (Qx (Qx (Qh (Qn ?_))))
 refine Ws (Wg (Wr 1 tk sg0 rfl rfl tv (Wn (Qn (Wt ?_)))))
 cases H
 exact Ea rfl rfl rfl tv
theorem ref09_Check_f : hasFunc Tryd.prog 15 Tryd.f15 := ⟨Tryd.func15, rfl, by kernel_rfl⟩

theorem ref06_Known_0 (a0 : Int) {r : Bool} (H : ref06_Known a0 = some r) : LJ.Spec Tryd.prog 44 [.d (.int .i64 a0)] [] (.d (.bool r)) [] := by
 refine LJ.Spec.code Tryd.func44 rfl 9 rfl rfl [] rfl fun w0 F0 S0 B0 => ?_
 unfold ref06_Known at H
 refine Ws (Wg (Wr 1 tk sg0 rfl rfl tv (Wn (Qn (Ws (Wg (Wr 3 tk sg0 rfl rfl tv (Wx 2 2 true tk sg0 rfl rfl (fun _ => tv) (Wr 2 tk sg0 rfl rfl ⟨by first | exact id | exact fun h => by rw [h]; rfl | simp_all, tv⟩ (Wn (Qn (Wt ?_))))))))))))
 cases H
 exact Ea rfl rfl rfl tv
theorem ref06_Known_f : hasFunc Tryd.prog 44 Tryd.f44 := ⟨Tryd.func44, rfl, by kernel_rfl⟩

theorem ref06_Forms_0  {r : List ByteArray} (H : ref06_Forms = some r) : LJ.Spec Tryd.prog 58 [] [] (.d (slT enc_str r)) [] := by
 refine LJ.Spec.code Tryd.func58 rfl 2 rfl rfl [] rfl fun w0 F0 S0 B0 => ?_
 unfold ref06_Forms at H
 refine Ws (Wg (Wr 1 tk sg0 rfl rfl tv (Wn (Qn (Ws (Wg (We 101 tk ek eg0 rfl rfl rfl tv (WL.freezeT 101 enc_str ([(⟨#[110]⟩ : ByteArray), (⟨#[107]⟩ : ByteArray), (⟨#[107]⟩ : ByteArray), ByteArray.empty, ByteArray.empty, ByteArray.empty, ByteArray.empty, ByteArray.empty, ByteArray.empty, ByteArray.empty, ByteArray.empty, ByteArray.empty, ByteArray.empty, ByteArray.empty, ByteArray.empty, ByteArray.empty, ByteArray.empty, ByteArray.empty, (⟨#[116]⟩ : ByteArray), (⟨#[116]⟩ : ByteArray), (⟨#[102]⟩ : ByteArray), ByteArray.empty, ByteArray.empty, ByteArray.empty, ByteArray.empty, ByteArray.empty, (⟨#[119]⟩ : ByteArray), (⟨#[119]⟩ : ByteArray), ByteArray.empty, (⟨#[117]⟩ : ByteArray), (⟨#[115]⟩ : ByteArray), (⟨#[112]⟩ : ByteArray), (⟨#[99, 109]⟩ : ByteArray), (⟨#[99, 109]⟩ : ByteArray), (⟨#[99]⟩ : ByteArray), (⟨#[99]⟩ : ByteArray), (⟨#[98]⟩ : ByteArray), (⟨#[98]⟩ : ByteArray), (⟨#[98]⟩ : ByteArray), (⟨#[98]⟩ : ByteArray), (⟨#[102]⟩ : ByteArray), (⟨#[106, 106]⟩ : ByteArray), (⟨#[106, 106]⟩ : ByteArray), ByteArray.empty, ByteArray.empty, (⟨#[118]⟩ : ByteArray), (⟨#[118]⟩ : ByteArray), ByteArray.empty, ByteArray.empty, (⟨#[113]⟩ : ByteArray), (⟨#[109]⟩ : ByteArray), (⟨#[109]⟩ : ByteArray)] : List ByteArray) rfl rfl rfl rfl (Wr 1 tk sg0 rfl rfl tv (Wn (Qn (Wt ?_))))))))))))
 cases H
 exact Ea rfl rfl rfl tv
theorem ref06_Forms_f : hasFunc Tryd.prog 58 Tryd.f58 := ⟨Tryd.func58, rfl, by kernel_rfl⟩

theorem ref06_Form_0 (a0 : Int) {r : ByteArray} (H : ref06_Form a0 = some r) : LJ.Spec Tryd.prog 39 [.d (.int .i64 a0)] [] (.d (.str r)) [] := by
 refine LJ.Spec.code Tryd.func39 rfl 10 rfl rfl [] rfl fun w0 F0 S0 B0 => ?_
 unfold ref06_Form at H
 refine Ws (Wg (Wr 1 tk sg0 rfl rfl tv (Wn (Qn (Ws (Ws (Wg (Wr 1 tk sg0 rfl rfl tv ?_))))))))
 obtain ⟨x1, hx1, H⟩ := of_bind H
 refine Wf [] (ref06_Known_0 _ hx1) ref06_Known_f rfl rfl tv rfl rfl rfl (Wr 1 tk sg0 rfl rfl tv (Wn (Qn (Wc rfl (fun h2 => ?_) (fun h2 => ?_)))))
 ·replace H := of_t H h2
  refine Ws (Wg (Wr 1 tk sg0 rfl rfl tv (Wn (Qn (Wt (QT.r ?_))))))
  cases H
  exact Ea rfl rfl rfl tv
 replace H := of_f H h2
 refine Wk (Qn (Ws (Wg ?_)))
 obtain ⟨x3, hx3, H⟩ := of_bind H
 refine Wf [] (ref06_Forms_0 hx3) ref06_Forms_f rfl rfl tv rfl rfl rfl ?_
 obtain ⟨g4, H⟩ := of_need H
 refine Wr 4 tk sg0 rfl rfl ⟨⟨(nIn_ok g4).1, (nIn_ok g4).2, rfl⟩, tv⟩ (Wn (Qn (Wt ?_)))
 cases H
 exact Ea rfl rfl rfl tv
theorem ref06_Form_f : hasFunc Tryd.prog 39 Tryd.f39 := ⟨Tryd.func39, rfl, by kernel_rfl⟩

theorem ref07_least_0 (a0 : Int) {r : Int} (H : ref07_least a0 = some r) : LJ.Spec Tryd.prog 45 [.d (.int .u8 a0)] [] (.d (.int .i64 r)) [] := by
 refine LJ.Spec.code Tryd.func45 rfl 5 rfl rfl [] rfl fun w0 F0 S0 B0 => ?_
 unfold ref07_least at H
 refine Ws (Wg (Wr 1 tk sg0 rfl rfl tv (Wn (Qn (Ws (Ws (Wg (Wr 2 tk sg0 rfl rfl tv (Wn (Qn (Wc rfl (fun h1 => ?_) (fun h1 => ?_))))))))))))
 ·replace H := of_t H h1
  refine Ws (Wg (Wr 1 tk sg0 rfl rfl tv (Wn (Qn (Wt (QT.r ?_))))))
  cases H
  exact Ea rfl rfl rfl tv
 replace H := of_f H h1
 refine Wk (Qn (Ws (Wg (Wr 1 tk sg0 rfl rfl tv (Wn (Qn (Wt ?_)))))))
 cases H
 exact Ea rfl rfl rfl tv
theorem ref07_least_f : hasFunc Tryd.prog 45 Tryd.f45 := ⟨Tryd.func45, rfl, by kernel_rfl⟩

theorem ref07_most_0 (a0 : Int) {r : Int} (H : ref07_most a0 = some r) : LJ.Spec Tryd.prog 46 [.d (.int .u8 a0)] [] (.d (.int .i64 r)) [] := by
 refine LJ.Spec.code Tryd.func46 rfl 12 rfl rfl [] rfl fun w0 F0 S0 B0 => ?_
 unfold ref07_most at H
 refine Ws (Wg (Wr 1 tk sg0 rfl rfl tv (Wn (Qn (Ws (Ws (Wg (Wr 1 tk sg0 rfl rfl tv (Wn (Qn (Wb (Ws (Wg (Wr 2 tk sg0 rfl rfl tv (Wn (Qn (Wc rfl (fun h1 => ?_) (fun h1 => ?_))))))))))))))))))
 ·replace H := of_t H h1
  refine Ws (Wg (Wr 1 tk sg0 rfl rfl tv (Wn (Qn (Wt (QB.r (QT.r ?_)))))))
  cases H
  exact Ea rfl rfl rfl tv
 replace H := of_f H h1
 refine Ws (Wg (Wr 2 tk sg0 rfl rfl tv (Wn (Qn (Wc rfl (fun h2 => ?_) (fun h2 => ?_))))))
 ·replace H := of_t H h2
  refine Ws (Wg (Wr 1 tk sg0 rfl rfl tv (Wn (Qn (Wt (QB.r (QT.r ?_)))))))
  cases H
  exact Ea rfl rfl rfl tv
 replace H := of_f H h2
 refine Ws (Wg (Wr 2 tk sg0 rfl rfl tv (Wn (Qn (Wc rfl (fun h3 => ?_) (fun h3 => ?_))))))
 ·replace H := of_t H h3
  refine Ws (Wg (Wr 1 tk sg0 rfl rfl tv (Wn (Qn (Wt (QB.r (QT.r ?_)))))))
  cases H
  exact Ea rfl rfl rfl tv
 replace H := of_f H h3
 refine Ws (Wg (Wr 2 tk sg0 rfl rfl tv (Wn (Qn (Wc rfl (fun h4 => ?_) (fun h4 => ?_))))))
 ·replace H := of_t H h4
  refine Ws (Wg (Wr 1 tk sg0 rfl rfl tv (Wn (Qn (Wt (QB.r (QT.r ?_)))))))
  cases H
  exact Ea rfl rfl rfl tv
 replace H := of_f H h4
 refine Wk (Qb (Qn ?_))
 refine Ws (Wg (Wr 1 tk sg0 rfl rfl tv (Wn (Qn (Wt ?_)))))
 cases H
 exact Ea rfl rfl rfl tv
theorem ref07_most_f : hasFunc Tryd.prog 46 Tryd.f46 := ⟨Tryd.func46, rfl, by kernel_rfl⟩

theorem ref07_Check_0 (a0 : T_api_Ins) {r : Int} (H : ref07_Check a0 = some r) : LJ.Spec Tryd.prog 28 [.d (.agg [.int .i64 a0.Op, .int .i64 a0.A, .int .i64 a0.B])] [] (.d (.int .i64 r)) [] := by
 refine LJ.Spec.code Tryd.func28 rfl 85 rfl rfl [] rfl fun w0 F0 S0 B0 => ?_
 unfold ref07_Check at H
 refine Ws (Wg (We 101 tk ek eg0 rfl rfl rfl tv (Wr 1 tk sg0 rfl rfl tv (Wn (Qn (Ws (Ws (Wg (Wr 2 tk sg0 rfl rfl tv ?_)))))))))
 obtain ⟨x1, hx1, H⟩ := of_bind H
 refine Wf [] (ref06_Known_0 _ hx1) ref06_Known_f rfl rfl tv rfl rfl rfl (Wr 1 tk sg0 rfl rfl tv (Wn (Qn (Wc rfl (fun h2 => ?_) (fun h2 => ?_)))))
 ·replace H := of_t H h2
  refine Ws (Wg (Wr 1 tk sg0 rfl rfl tv (Wn (Qn (Wt (QT.r ?_))))))
  cases H
  exact Ea rfl rfl rfl tv
 replace H := of_f H h2
 refine Wk (Qn (Ws ?_))
 obtain ⟨x3_2_1, hx3_2_1, H⟩ := of_bind H
 refine WC.heldF [(1, .ptr 101 0), (3, .d (.str x3_2_1)), (4, .d (slT enc_i64 ([a0.A, a0.B] : List Int)))] [(101, .box 46 [.d (.int .i64 a0.Op), .d (.int .i64 a0.A), .d (.int .i64 a0.B)])] (.one 0 true (.one 1 true (.one 3 true (.one 4 true (.one 5 true (.one 6 true (.fork (.one 2 false (.one 8 true (.one 7 false (.one 9 true .done)))) (.one 7 false (.one 2 false (.one 8 true (.one 9 true .done))))))))))) [101] [101] rfl (by kernel_rfl) rfl (by kernel_rfl) rfl rfl (fun _ h => h) rfl rfl rfl (fun FK NK wK K => ?_) ?_
 ·refine Hr 6 tk rfl rfl rfl rfl tv (WH.fork ?_ ?_)
  ·exact WH.call [] rfl (ref06_Form_0 _ hx3_2_1) ref06_Form_f rfl rfl tv rfl rfl rfl rfl rfl (Hr 1 tk rfl rfl rfl rfl tv (He 118 tk ek rfl rfl rfl rfl tv rfl rfl (WH.freezeT 118 enc_i64 ([a0.A, a0.B] : List Int) rfl rfl rfl rfl (WH.mv rfl rfl rfl rfl rfl rfl rfl rfl rfl (Hn rfl (LessW.mk' ⟨Ao rfl, Ao rfl, Ao rfl, tv⟩ ⟨rfl, tv⟩))))))
  ·exact He 118 tk ek rfl rfl rfl rfl tv rfl rfl (WH.freezeT 118 enc_i64 ([a0.A, a0.B] : List Int) rfl rfl rfl rfl (WH.call [] rfl (ref06_Form_0 _ hx3_2_1) ref06_Form_f rfl rfl tv rfl rfl rfl rfl rfl (Hr 1 tk rfl rfl rfl rfl tv (WH.mv rfl rfl rfl rfl rfl rfl rfl rfl rfl (Hn rfl (LessW.mk' ⟨Ao rfl, Ao rfl, Ao rfl, tv⟩ ⟨rfl, tv⟩))))))
 ·refine Qn (Ws (Ws (Wg (Wr 1 tk sg0 rfl rfl tv (Wn (Qn (Wb (Wl (ι := {x : Nat × Int // ref07_Check_l4 a0 x3_2_1 x.1 x.2 = some r}) (fun x => [(1, .ptr 101 0), (3, .d (.str x3_2_1)), (4, .d (slT enc_i64 ([a0.A, a0.B] : List Int))), (5, .d (.int .i64 x.1.2))]) (fun x => [(101, .box 46 [.d (.int .i64 a0.Op), .d (.int .i64 a0.A), .d (.int .i64 a0.B)])]) (fun x => x.1.1) ⟨(fuel, 0), H⟩ (Less.mk' ⟨rfl, rfl, rfl, rfl, tv⟩ ⟨rfl, tv⟩) fun x => ?_))))))))
  obtain ⟨⟨k4, s3⟩, H⟩ := x
  rcases k4 with _ | k4
  ·exact of_none H
  rw [ref07_Check_l4] at H
  refine Ws (Ws (Wg (Wr 4 tk sg0 rfl rfl tv (Wn (Qn (Wc rfl (fun h5 => ?_) (fun h5 => ?_)))))))
  ·replace H := of_t H h5
   refine Wk (Qn (Ws (Wb (Ws (Hp (.one 0 true (.one 1 true (.one 2 true (.one 3 true (.one 4 true (.one 5 true (.one 6 true (.one 7 true (.one 8 true (.one 9 false (.one 10 true (.one 11 true (.one 12 true (.one 13 true (.one 14 true (.one 15 true (.one 16 true (.one 17 true (.one 18 true (.one 19 true (.one 20 true (.one 21 true (.one 22 true (.one 23 true (.one 24 true (.one 25 false (.one 26 true (.one 27 true (.one 28 true (.one 29 true (.one 30 true (.one 31 true (.one 32 true (.one 33 true (.one 34 true (.one 35 false (.one 36 true (.one 37 true (.one 38 true (.one 39 true .done)))))))))))))))))))))))))))))))))))))))) [101] [101] rfl (by kernel_rfl) rfl (by kernel_rfl) rfl rfl (fun _ h => h) rfl rfl rfl (fun _ _ _ h => h) fun FK NK wK K => ?_)))))
   obtain ⟨g6, H⟩ := of_need H
   refine Hr 5 tk rfl rfl rfl rfl ⟨(nIn_ok g6), tv⟩ (WH.split (g := 29) rfl (fun h7 => ?_) (fun h7 => ?_))
   ·replace H := of_t H h7
    obtain ⟨g8, H⟩ := of_need H
    refine WH.grun 4 4 true 29 tk rfl rfl rfl rfl rfl rfl ⟨⟨(nIn_ok g8).1, (nIn_ok g8).2, rfl⟩, tv⟩ ?_
    obtain ⟨x9, hx9, H⟩ := of_bind H
    refine WH.gcall [] rfl (ref03_Fits_0 _ hx9) ref03_Fits_f rfl rfl tv rfl rfl rfl rfl rfl rfl rfl rfl (WH.grun 1 4 true 29 tk rfl rfl rfl rfl rfl rfl tv (WH.pick1 rfl rfl rfl rfl rfl rfl rfl (Hr 1 tk rfl rfl rfl rfl tv (WH.split (g := 37) rfl (fun h10 => ?_) (fun h10 => ?_)))))
    ·replace H := of_t H h10
     refine Hg rfl rfl rfl rfl rfl rfl rfl (Hg rfl rfl rfl rfl rfl rfl rfl (Hg rfl rfl rfl rfl rfl rfl rfl (Hg rfl rfl rfl rfl rfl rfl rfl (Hg rfl rfl rfl rfl rfl rfl rfl (Hg rfl rfl rfl rfl rfl rfl rfl (Hg rfl rfl rfl rfl rfl rfl rfl (Hg rfl rfl rfl rfl rfl rfl rfl (Hg rfl rfl rfl rfl rfl rfl rfl (Hg rfl rfl rfl rfl rfl rfl rfl (Hg rfl rfl rfl rfl rfl rfl rfl (Hg rfl rfl rfl rfl rfl rfl rfl (Hg rfl rfl rfl rfl rfl rfl rfl (Hg rfl rfl rfl rfl rfl rfl rfl (Hg rfl rfl rfl rfl rfl rfl rfl (Hg rfl rfl rfl rfl rfl rfl rfl (Hg rfl rfl rfl rfl rfl rfl rfl (Hg rfl rfl rfl rfl rfl rfl rfl (Hg rfl rfl rfl rfl rfl rfl rfl (Hg rfl rfl rfl rfl rfl rfl rfl (Hg rfl rfl rfl rfl rfl rfl rfl (Hg rfl rfl rfl rfl rfl rfl rfl (Hg rfl rfl rfl rfl rfl rfl rfl (Hg rfl rfl rfl rfl rfl rfl rfl (Hg rfl rfl rfl rfl rfl rfl rfl (Hg rfl rfl rfl rfl rfl rfl rfl (WH.pick1 rfl rfl rfl rfl rfl rfl rfl (WH.nil rfl (Qn (Wc rfl (fun h => ?_) (fun h => absurd h (by decide)))))))))))))))))))))))))))))))
     refine Ws (Wg (Wr 1 tk sg0 rfl rfl tv (Wn (Qn (Wt (QB.r (QT.r (QT.r (QB.r (QT.r ?_))))))))))
     cases H
     exact Ea rfl rfl rfl tv
    ·replace H := of_f H h10
     obtain ⟨g11, H⟩ := of_need H
     refine WH.grun 5 12 false 37 tk rfl rfl rfl rfl rfl rfl ⟨(nIn_ok g11), tv⟩ (WH.split (g := 42) rfl (fun h12 => ?_) (fun h12 => ?_))
     ·replace H := of_t H h12
      obtain ⟨g13, H⟩ := of_need H
      obtain ⟨g14, H⟩ := of_need H
      refine WH.grun 7 17 true 42 tk rfl rfl rfl rfl rfl rfl ⟨⟨(nIn_ok g13).1, (nIn_ok g13).2, rfl⟩, (nIn_ok g14), tv⟩ ?_
      obtain ⟨x15, hx15, H⟩ := of_bind H
      refine WH.gcall [] rfl (ref07_least_0 _ hx15) ref07_least_f rfl rfl tv rfl rfl rfl rfl rfl rfl rfl rfl (WH.grun 2 17 true 42 tk rfl rfl rfl rfl rfl rfl tv (WH.split (g := 52) rfl (fun h16 => ?_) (fun h16 => ?_)))
      ·replace H := of_t H h16
       refine Hg rfl rfl rfl rfl rfl rfl rfl (Hg rfl rfl rfl rfl rfl rfl rfl (Hg rfl rfl rfl rfl rfl rfl rfl (Hg rfl rfl rfl rfl rfl rfl rfl (Hg rfl rfl rfl rfl rfl rfl rfl (Hg rfl rfl rfl rfl rfl rfl rfl (Hg rfl rfl rfl rfl rfl rfl rfl (Hg rfl rfl rfl rfl rfl rfl rfl (Hg rfl rfl rfl rfl rfl rfl rfl (WH.gpick1 rfl rfl rfl rfl rfl rfl rfl rfl rfl rfl (WH.gpick1 rfl rfl rfl rfl rfl rfl rfl rfl rfl rfl (WH.pick1 rfl rfl rfl rfl rfl rfl rfl (WH.nil rfl (Qn (Wc rfl (fun h => ?_) (fun h => absurd h (by decide))))))))))))))))
       refine Ws (Wg (Wr 1 tk sg0 rfl rfl tv (Wn (Qn (Wt (QB.r (QT.r (QT.r (QB.r (QT.r ?_))))))))))
       cases H
       exact Ea rfl rfl rfl tv
      ·replace H := of_f H h16
       obtain ⟨g17, H⟩ := of_need H
       obtain ⟨g18, H⟩ := of_need H
       refine WH.grun 7 27 false 52 tk rfl rfl rfl rfl rfl rfl ⟨⟨(nIn_ok g17).1, (nIn_ok g17).2, rfl⟩, (nIn_ok g18), tv⟩ ?_
       obtain ⟨x19, hx19, H⟩ := of_bind H
       refine WH.gcall [] rfl (ref07_most_0 _ hx19) ref07_most_f rfl rfl tv rfl rfl rfl rfl rfl rfl rfl rfl (WH.grun 1 27 false 52 tk rfl rfl rfl rfl rfl rfl tv (WH.gpick1 rfl rfl rfl rfl rfl rfl rfl rfl rfl rfl (WH.gpick1 rfl rfl rfl rfl rfl rfl rfl rfl rfl rfl (WH.pick1 rfl rfl rfl rfl rfl rfl rfl (WH.nil rfl (Qn (Wc rfl (fun h20 => ?_) (fun h20 => ?_))))))))
       ·replace H := of_t H h20
        refine Ws (Wg (Wr 1 tk sg0 rfl rfl tv (Wn (Qn (Wt (QB.r (QT.r (QT.r (QB.r (QT.r ?_))))))))))
        cases H
        exact Ea rfl rfl rfl tv
       replace H := of_f H h20
       refine Wk (Qb (Qn ?_))
       exact Wg (Wr 3 tk sg0 rfl rfl tv (Wn (Qn (⟨⟨(k4, IntKind.i64.wrap (s3 + 1)), H⟩, Nat.lt_succ_self _, Less.mk' ⟨rfl, rfl, rfl, rfl, tv⟩ ⟨rfl, tv⟩⟩))))
     ·replace H := of_f H h12
      refine Hg rfl rfl rfl rfl rfl rfl rfl (Hg rfl rfl rfl rfl rfl rfl rfl (Hg rfl rfl rfl rfl rfl rfl rfl (Hg rfl rfl rfl rfl rfl rfl rfl (Hg rfl rfl rfl rfl rfl rfl rfl (Hg rfl rfl rfl rfl rfl rfl rfl (Hg rfl rfl rfl rfl rfl rfl rfl (Hg rfl rfl rfl rfl rfl rfl rfl (Hg rfl rfl rfl rfl rfl rfl rfl (Hg rfl rfl rfl rfl rfl rfl rfl (Hg rfl rfl rfl rfl rfl rfl rfl (Hg rfl rfl rfl rfl rfl rfl rfl (Hg rfl rfl rfl rfl rfl rfl rfl (Hg rfl rfl rfl rfl rfl rfl rfl (Hg rfl rfl rfl rfl rfl rfl rfl (Hg rfl rfl rfl rfl rfl rfl rfl (Hg rfl rfl rfl rfl rfl rfl rfl (Hg rfl rfl rfl rfl rfl rfl rfl (Hg rfl rfl rfl rfl rfl rfl rfl (Hg rfl rfl rfl rfl rfl rfl rfl (WH.gpick1 rfl rfl rfl rfl rfl rfl rfl rfl rfl rfl (WH.pick1 rfl rfl rfl rfl rfl rfl rfl (WH.nil rfl (Qn (Wc rfl (fun h => absurd h (by decide)) (fun h => ?_)))))))))))))))))))))))))
      refine Wk (Qb (Qn ?_))
      exact Wg (Wr 3 tk sg0 rfl rfl tv (Wn (Qn (⟨⟨(k4, IntKind.i64.wrap (s3 + 1)), H⟩, Nat.lt_succ_self _, Less.mk' ⟨rfl, rfl, rfl, rfl, tv⟩ ⟨rfl, tv⟩⟩))))
   ·replace H := of_f H h7
    refine Hg rfl rfl rfl rfl rfl rfl rfl (Hg rfl rfl rfl rfl rfl rfl rfl (Hg rfl rfl rfl rfl rfl rfl rfl (Hg rfl rfl rfl rfl rfl rfl rfl (Hg rfl rfl rfl rfl rfl rfl rfl (Hg rfl rfl rfl rfl rfl rfl rfl (WH.pick1 rfl rfl rfl rfl rfl rfl rfl (Hr 1 tk rfl rfl rfl rfl tv ?_)))))))
    obtain ⟨g21, H⟩ := of_need H
    refine WH.grun 5 12 false 37 tk rfl rfl rfl rfl rfl rfl ⟨(nIn_ok g21), tv⟩ (WH.split (g := 42) rfl (fun h22 => ?_) (fun h22 => ?_))
    ·replace H := of_t H h22
     obtain ⟨g23, H⟩ := of_need H
     obtain ⟨g24, H⟩ := of_need H
     refine WH.grun 7 17 true 42 tk rfl rfl rfl rfl rfl rfl ⟨⟨(nIn_ok g23).1, (nIn_ok g23).2, rfl⟩, (nIn_ok g24), tv⟩ ?_
     obtain ⟨x25, hx25, H⟩ := of_bind H
     refine WH.gcall [] rfl (ref07_least_0 _ hx25) ref07_least_f rfl rfl tv rfl rfl rfl rfl rfl rfl rfl rfl (WH.grun 2 17 true 42 tk rfl rfl rfl rfl rfl rfl tv (WH.split (g := 52) rfl (fun h26 => ?_) (fun h26 => ?_)))
     ·replace H := of_t H h26
      refine Hg rfl rfl rfl rfl rfl rfl rfl (Hg rfl rfl rfl rfl rfl rfl rfl (Hg rfl rfl rfl rfl rfl rfl rfl (Hg rfl rfl rfl rfl rfl rfl rfl (Hg rfl rfl rfl rfl rfl rfl rfl (Hg rfl rfl rfl rfl rfl rfl rfl (Hg rfl rfl rfl rfl rfl rfl rfl (Hg rfl rfl rfl rfl rfl rfl rfl (Hg rfl rfl rfl rfl rfl rfl rfl (WH.gpick1 rfl rfl rfl rfl rfl rfl rfl rfl rfl rfl (WH.gpick1 rfl rfl rfl rfl rfl rfl rfl rfl rfl rfl (WH.pick1 rfl rfl rfl rfl rfl rfl rfl (WH.nil rfl (Qn (Wc rfl (fun h => ?_) (fun h => absurd h (by decide))))))))))))))))
      refine Ws (Wg (Wr 1 tk sg0 rfl rfl tv (Wn (Qn (Wt (QB.r (QT.r (QT.r (QB.r (QT.r ?_))))))))))
      cases H
      exact Ea rfl rfl rfl tv
     ·replace H := of_f H h26
      obtain ⟨g27, H⟩ := of_need H
      obtain ⟨g28, H⟩ := of_need H
      refine WH.grun 7 27 false 52 tk rfl rfl rfl rfl rfl rfl ⟨⟨(nIn_ok g27).1, (nIn_ok g27).2, rfl⟩, (nIn_ok g28), tv⟩ ?_
      obtain ⟨x29, hx29, H⟩ := of_bind H
      refine WH.gcall [] rfl (ref07_most_0 _ hx29) ref07_most_f rfl rfl tv rfl rfl rfl rfl rfl rfl rfl rfl (WH.grun 1 27 false 52 tk rfl rfl rfl rfl rfl rfl tv (WH.gpick1 rfl rfl rfl rfl rfl rfl rfl rfl rfl rfl (WH.gpick1 rfl rfl rfl rfl rfl rfl rfl rfl rfl rfl (WH.pick1 rfl rfl rfl rfl rfl rfl rfl (WH.nil rfl (Qn (Wc rfl (fun h30 => ?_) (fun h30 => ?_))))))))
      ·replace H := of_t H h30
       refine Ws (Wg (Wr 1 tk sg0 rfl rfl tv (Wn (Qn (Wt (QB.r (QT.r (QT.r (QB.r (QT.r ?_))))))))))
       cases H
       exact Ea rfl rfl rfl tv
      replace H := of_f H h30
      refine Wk (Qb (Qn ?_))
      exact Wg (Wr 3 tk sg0 rfl rfl tv (Wn (Qn (⟨⟨(k4, IntKind.i64.wrap (s3 + 1)), H⟩, Nat.lt_succ_self _, Less.mk' ⟨rfl, rfl, rfl, rfl, tv⟩ ⟨rfl, tv⟩⟩))))
    ·replace H := of_f H h22
     refine Hg rfl rfl rfl rfl rfl rfl rfl (Hg rfl rfl rfl rfl rfl rfl rfl (Hg rfl rfl rfl rfl rfl rfl rfl (Hg rfl rfl rfl rfl rfl rfl rfl (Hg rfl rfl rfl rfl rfl rfl rfl (Hg rfl rfl rfl rfl rfl rfl rfl (Hg rfl rfl rfl rfl rfl rfl rfl (Hg rfl rfl rfl rfl rfl rfl rfl (Hg rfl rfl rfl rfl rfl rfl rfl (Hg rfl rfl rfl rfl rfl rfl rfl (Hg rfl rfl rfl rfl rfl rfl rfl (Hg rfl rfl rfl rfl rfl rfl rfl (Hg rfl rfl rfl rfl rfl rfl rfl (Hg rfl rfl rfl rfl rfl rfl rfl (Hg rfl rfl rfl rfl rfl rfl rfl (Hg rfl rfl rfl rfl rfl rfl rfl (Hg rfl rfl rfl rfl rfl rfl rfl (Hg rfl rfl rfl rfl rfl rfl rfl (Hg rfl rfl rfl rfl rfl rfl rfl (Hg rfl rfl rfl rfl rfl rfl rfl (WH.gpick1 rfl rfl rfl rfl rfl rfl rfl rfl rfl rfl (WH.pick1 rfl rfl rfl rfl rfl rfl rfl (WH.nil rfl (Qn (Wc rfl (fun h => absurd h (by decide)) (fun h => ?_)))))))))))))))))))))))))
     refine Wk (Qb (Qn ?_))
     exact Wg (Wr 3 tk sg0 rfl rfl tv (Wn (Qn (⟨⟨(k4, IntKind.i64.wrap (s3 + 1)), H⟩, Nat.lt_succ_self _, Less.mk' ⟨rfl, rfl, rfl, rfl, tv⟩ ⟨rfl, tv⟩⟩))))
  replace H := of_f H h5
  refine WC.exit (Qx (Qx (Qh (Qn ?_))))
  refine Ws (Ws (Wg (Wr 3 tk sg0 rfl rfl tv (Wx 5 2 true tk sg0 rfl rfl (fun _ => tv) (Wr 1 tk sg0 rfl rfl ⟨by first | exact id | exact fun h => by rw [h]; rfl | simp_all, tv⟩ (Wn (Qn (Wc rfl (fun h31 => ?_) (fun h31 => ?_)))))))))
  ·replace H := of_t H h31
   refine Ws (Wg (Wr 1 tk sg0 rfl rfl tv (Wn (Qn (Wt (QT.r ?_))))))
   cases H
   exact Ea rfl rfl rfl tv
  replace H := of_f H h31
  refine Wk (Qn (Ws (Ws (Wg (Wr 3 tk sg0 rfl rfl tv (Wn (Qn (Wb (Wl (ι := {x : Nat × Int // ref07_Check_l33 a0 x.1 x.2 = some r}) (fun x => [(4, .d (slT enc_i64 ([a0.A, a0.B] : List Int))), (6, .d (.int .i64 x.1.2))]) (fun x => []) (fun x => x.1.1) ⟨(fuel, (x3_2_1.size : Int)), H⟩ (Less.mk' ⟨rfl, rfl, tv⟩ tv) fun x => ?_)))))))))
  obtain ⟨⟨k33, s32⟩, H⟩ := x
  rcases k33 with _ | k33
  ·exact of_none H
  rw [ref07_Check_l33] at H
  refine Ws (Ws (Wg (Wr 2 tk sg0 rfl rfl tv (Wn (Qn (Wc rfl (fun h34 => ?_) (fun h34 => ?_)))))))
  ·replace H := of_t H h34
   refine Wk (Qn (Ws (Wb (Ws (Wg ?_)))))
   obtain ⟨g35, H⟩ := of_need H
   refine Wr 5 tk sg0 rfl rfl ⟨⟨(nIn_ok g35).1, (nIn_ok g35).2, rfl⟩, tv⟩ (Wn (Qn (Wc rfl (fun h36 => ?_) (fun h36 => ?_))))
   ·replace H := of_t H h36
    refine Ws (Wg (Wr 1 tk sg0 rfl rfl tv (Wn (Qn (Wt (QB.r (QT.r (QT.r (QB.r (QT.r ?_))))))))))
    cases H
    exact Ea rfl rfl rfl tv
   replace H := of_f H h36
   refine Wk (Qb (Qn ?_))
   exact Wg (Wr 3 tk sg0 rfl rfl tv (Wn (Qn (⟨⟨(k33, IntKind.i64.wrap (s32 + 1)), H⟩, Nat.lt_succ_self _, Less.mk' ⟨rfl, rfl, tv⟩ tv⟩))))
  replace H := of_f H h34
  refine WC.exit (Qx (Qx (Qh (Qn ?_))))
  refine Ws (Wg (Wr 1 tk sg0 rfl rfl tv (Wn (Qn (Wt ?_)))))
  cases H
  exact Ea rfl rfl rfl tv
theorem ref07_Check_f : hasFunc Tryd.prog 28 Tryd.f28 := ⟨Tryd.func28, rfl, by kernel_rfl⟩

theorem ref10_function_0 (a0 : T_api_Func) {r : Int} (H : ref10_function a0 = some r) : LJ.Spec Tryd.prog 16 [.d (.agg [.int .i64 a0.Args, .int .i64 a0.Locals, slT enc_api_Ins a0.Code])] [] (.d (.int .i64 r)) [] := by
 refine LJ.Spec.code Tryd.func16 rfl 44 rfl rfl [] rfl fun w0 F0 S0 B0 => ?_
 unfold ref10_function at H
 refine Ws (Wg (We 101 tk ek eg0 rfl rfl rfl tv (Wr 1 tk sg0 rfl rfl tv (Wn (Qn (Ws (Ws (Wg (Wr 4 tk sg0 rfl rfl tv (Wx 5 3 false tk sg0 rfl rfl (fun _ => tv) (Wr 2 tk sg0 rfl rfl ⟨by first | exact id | exact fun h => by rw [h]; rfl | simp_all, tv⟩ (Wx 3 10 false tk sg0 rfl rfl (fun _ => tv) (Wr 1 tk sg0 rfl rfl ⟨by first | exact id | exact fun h => by rw [h]; rfl | simp_all, tv⟩ (Wn (Qn (Wc rfl (fun h1 => ?_) (fun h1 => ?_)))))))))))))))))
 ·replace H := of_t H h1
  refine Ws (Wg (Wr 1 tk sg0 rfl rfl tv (Wn (Qn (Wt (QT.r ?_))))))
  cases H
  exact Ea rfl rfl rfl tv
 replace H := of_f H h1
 refine Wk (Qn (Ws (Ws (Wg (Wr 4 tk sg0 rfl rfl tv (Wn (Qn (Wc rfl (fun h2 => ?_) (fun h2 => ?_)))))))))
 ·replace H := of_t H h2
  refine Ws (Wg (Wr 1 tk sg0 rfl rfl tv (Wn (Qn (Wt (QT.r ?_))))))
  cases H
  exact Ea rfl rfl rfl tv
 replace H := of_f H h2
 refine Wk (Qn (Ws (Ws (Wg (Wr 4 tk sg0 rfl rfl tv (Wn (Qn (Wc rfl (fun h3 => ?_) (fun h3 => ?_)))))))))
 ·replace H := of_t H h3
  refine Ws (Wg (Wr 1 tk sg0 rfl rfl tv (Wn (Qn (Wt (QT.r ?_))))))
  cases H
  exact Ea rfl rfl rfl tv
 replace H := of_f H h3
 refine Wk (Qn (Ws (Ws (Wg (Wr 1 tk sg0 rfl rfl tv (Wn (Qn (Wb (Wl (ι := {x : Nat × Int // ref10_function_l5 a0 x.1 x.2 = some r}) (fun x => [(1, .ptr 101 0), (3, .d (.int .i64 x.1.2))]) (fun x => [(101, .box 44 [.d (.int .i64 a0.Args), .d (.int .i64 a0.Locals), .d (slT enc_api_Ins a0.Code)])]) (fun x => x.1.1) ⟨(fuel, 0), H⟩ (Less.mk' ⟨rfl, rfl, tv⟩ ⟨rfl, tv⟩) fun x => ?_)))))))))
 obtain ⟨⟨k5, s4⟩, H⟩ := x
 rcases k5 with _ | k5
 ·exact of_none H
 rw [ref10_function_l5] at H
 refine Ws (Ws (Wg (Wr 5 tk sg0 rfl rfl tv (Wn (Qn (Wc rfl (fun h6 => ?_) (fun h6 => ?_)))))))
 ·replace H := of_t H h6
  refine Wk (Qn (Ws (Wb (Ws (Wg ?_)))))
  obtain ⟨g7, H⟩ := of_need H
  refine Wr 5 tk sg0 rfl rfl ⟨⟨(nIn_ok g7).1, (nIn_ok g7).2, rfl⟩, tv⟩ ?_
  obtain ⟨x8, hx8, H⟩ := of_bind H
  refine Wf [] (ref07_Check_0 _ hx8) ref07_Check_f rfl rfl tv rfl rfl rfl (Wr 1 tk sg0 rfl rfl tv (Wn (Qn (Ws (Wg (Wr 2 tk sg0 rfl rfl tv (Wn (Qn (Wc rfl (fun h9 => ?_) (fun h9 => ?_))))))))))
  ·replace H := of_t H h9
   refine Ws (Wg (Wr 2 tk sg0 rfl rfl tv (Wn (Qn (Wt (QB.r (QT.r (QT.r (QB.r (QT.r ?_))))))))))
   cases H
   exact Ea rfl rfl rfl tv
  replace H := of_f H h9
  refine Wk (Qb (Qn ?_))
  exact Wg (Wr 3 tk sg0 rfl rfl tv (Wn (Qn (⟨⟨(k5, IntKind.i64.wrap (s4 + 1)), H⟩, Nat.lt_succ_self _, Less.mk' ⟨rfl, rfl, tv⟩ ⟨rfl, tv⟩⟩))))
 replace H := of_f H h6
 refine WC.exit (Qx (Qx (Qh (Qn ?_))))
 refine Ws (Wg (Wr 1 tk sg0 rfl rfl tv (Wn (Qn (Wt ?_)))))
 cases H
 exact Ea rfl rfl rfl tv
theorem ref10_function_f : hasFunc Tryd.prog 16 Tryd.f16 := ⟨Tryd.func16, rfl, by kernel_rfl⟩

theorem ref10_Check_0 (a0 : T_api_Program) {r : Int} (H : ref10_Check a0 = some r) : LJ.Spec Tryd.prog 5 [.d (.agg [slT enc_api_Decl a0.Decls, slT enc_sl_sl_api_Need a0.Waits, slT enc_api_Func a0.Funcs])] [] (.d (.int .i64 r)) [] := by
 refine LJ.Spec.code Tryd.func5 rfl 64 rfl rfl [] rfl fun w0 F0 S0 B0 => ?_
 unfold ref10_Check at H
 refine Ws (Wg (We 101 tk ek eg0 rfl rfl rfl tv (Wr 1 tk sg0 rfl rfl tv (Wn (Qn (Ws (Ws (Wg (Wr 2 tk sg0 rfl rfl tv ?_)))))))))
 obtain ⟨x1, hx1, H⟩ := of_bind H
 refine Wf [] (ref08_Check_0 _ hx1) ref08_Check_f rfl rfl tv rfl rfl rfl (Wr 5 tk sg0 rfl rfl tv (Wn (Qn (Ws (Wg (Wr 2 tk sg0 rfl rfl tv (Wn (Qn (Wc rfl (fun h2 => ?_) (fun h2 => ?_))))))))))
 ·replace H := of_t H h2
  refine Ws (Wg (Wr 2 tk sg0 rfl rfl tv (Wn (Qn (Wt (QT.r ?_))))))
  cases H
  exact Ea rfl rfl rfl tv
 replace H := of_f H h2
 refine Wk (Qn (Ws (Ws (Wg (Wr 4 tk sg0 rfl rfl tv (Wn (Qn (Wc rfl (fun h3 => ?_) (fun h3 => ?_)))))))))
 ·replace H := of_t H h3
  refine Ws (Wg (Wr 1 tk sg0 rfl rfl tv (Wn (Qn (Wt (QT.r ?_))))))
  cases H
  exact Ea rfl rfl rfl tv
 replace H := of_f H h3
 refine Wk (Qn (Ws (Ws (Wg (Wr 1 tk sg0 rfl rfl tv (Wn (Qn (Wb (Wl (ι := {x : Nat × Int // ref10_Check_l5 a0 x.1 x.2 = some r}) (fun x => [(1, .ptr 101 0), (5, .d (.int .i64 x.1.2))]) (fun x => [(101, .box 26 [.d (slT enc_api_Decl a0.Decls), .d (slT enc_sl_sl_api_Need a0.Waits), .d (slT enc_api_Func a0.Funcs)])]) (fun x => x.1.1) ⟨(fuel, 0), H⟩ (Less.mk' ⟨rfl, rfl, tv⟩ ⟨rfl, tv⟩) fun x => ?_)))))))))
 obtain ⟨⟨k5, s4⟩, H⟩ := x
 rcases k5 with _ | k5
 ·exact of_none H
 rw [ref10_Check_l5] at H
 refine Ws (Ws (Wg (Wr 5 tk sg0 rfl rfl tv (Wn (Qn (Wc rfl (fun h6 => ?_) (fun h6 => ?_)))))))
 ·replace H := of_t H h6
  refine Wk (Qn (Ws (Wb (Ws (Hp (.one 0 true (.one 1 true (.one 2 true (.one 3 true (.one 4 true (.one 5 true (.one 6 true (.one 7 false (.one 8 true .done))))))))) [101] [101] rfl (by kernel_rfl) rfl (by kernel_rfl) rfl rfl (fun _ h => h) rfl rfl rfl (fun _ _ _ h => h) fun FK NK wK K => ?_)))))
  obtain ⟨g7, H⟩ := of_need H
  refine Hr 7 tk rfl rfl rfl rfl ⟨⟨(nIn_ok g7).1, (nIn_ok g7).2, rfl⟩, tv⟩ ?_
  obtain ⟨x8, hx8, H⟩ := of_bind H
  refine WH.call [] rfl (ref09_Check_0 _ _ hx8) ref09_Check_f rfl rfl tv rfl rfl rfl rfl rfl (Hr 1 tk rfl rfl rfl rfl tv (WH.nil rfl (Qn (Ws (Wg (Wr 2 tk sg0 rfl rfl tv (Wn (Qn (Wc rfl (fun h9 => ?_) (fun h9 => ?_))))))))))
  ·replace H := of_t H h9
   refine Ws (Wg (Wr 2 tk sg0 rfl rfl tv (Wn (Qn (Wt (QB.r (QT.r (QT.r (QB.r (QT.r ?_))))))))))
   cases H
   exact Ea rfl rfl rfl tv
  replace H := of_f H h9
  refine Wk (Qb (Qn ?_))
  exact Wg (Wr 3 tk sg0 rfl rfl tv (Wn (Qn (⟨⟨(k5, IntKind.i64.wrap (s4 + 1)), H⟩, Nat.lt_succ_self _, Less.mk' ⟨rfl, rfl, tv⟩ ⟨rfl, tv⟩⟩))))
 replace H := of_f H h6
 refine WC.exit (Qx (Qx (Qh (Qn ?_))))
 refine Ws (Ws (Wg (Wr 4 tk sg0 rfl rfl tv (Wn (Qn (Wc rfl (fun h10 => ?_) (fun h10 => ?_)))))))
 ·replace H := of_t H h10
  refine Ws (Wg (Wr 1 tk sg0 rfl rfl tv (Wn (Qn (Wt (QT.r ?_))))))
  cases H
  exact Ea rfl rfl rfl tv
 replace H := of_f H h10
 refine Wk (Qn (Ws (Ws (Wg (Wr 4 tk sg0 rfl rfl tv (Wn (Qn (Wc rfl (fun h11 => ?_) (fun h11 => ?_)))))))))
 ·replace H := of_t H h11
  refine Ws (Wg (Wr 1 tk sg0 rfl rfl tv (Wn (Qn (Wt (QT.r ?_))))))
  cases H
  exact Ea rfl rfl rfl tv
 replace H := of_f H h11
 refine Wk (Qn (Ws (Ws (Wg (Wr 1 tk sg0 rfl rfl tv (Wn (Qn (Wb (Wl (ι := {x : Nat × Int // ref10_Check_l13 a0 x.1 x.2 = some r}) (fun x => [(1, .ptr 101 0), (7, .d (.int .i64 x.1.2))]) (fun x => [(101, .box 26 [.d (slT enc_api_Decl a0.Decls), .d (slT enc_sl_sl_api_Need a0.Waits), .d (slT enc_api_Func a0.Funcs)])]) (fun x => x.1.1) ⟨(fuel, 0), H⟩ (Less.mk' ⟨rfl, rfl, tv⟩ ⟨rfl, tv⟩) fun x => ?_)))))))))
 obtain ⟨⟨k13, s12⟩, H⟩ := x
 rcases k13 with _ | k13
 ·exact of_none H
 rw [ref10_Check_l13] at H
 refine Ws (Ws (Wg (Wr 5 tk sg0 rfl rfl tv (Wn (Qn (Wc rfl (fun h14 => ?_) (fun h14 => ?_)))))))
 ·replace H := of_t H h14
  refine Wk (Qn (Ws (Wb (Ws (Wg ?_)))))
  obtain ⟨g15, H⟩ := of_need H
  refine Wr 5 tk sg0 rfl rfl ⟨⟨(nIn_ok g15).1, (nIn_ok g15).2, rfl⟩, tv⟩ ?_
  obtain ⟨x16, hx16, H⟩ := of_bind H
  refine Wf [] (ref10_function_0 _ hx16) ref10_function_f rfl rfl tv rfl rfl rfl (Wr 1 tk sg0 rfl rfl tv (Wn (Qn (Ws (Wg (Wr 2 tk sg0 rfl rfl tv (Wn (Qn (Wc rfl (fun h17 => ?_) (fun h17 => ?_))))))))))
  ·replace H := of_t H h17
   refine Ws (Wg (Wr 2 tk sg0 rfl rfl tv (Wn (Qn (Wt (QB.r (QT.r (QT.r (QB.r (QT.r ?_))))))))))
   cases H
   exact Ea rfl rfl rfl tv
  replace H := of_f H h17
  refine Wk (Qb (Qn ?_))
  exact Wg (Wr 3 tk sg0 rfl rfl tv (Wn (Qn (⟨⟨(k13, IntKind.i64.wrap (s12 + 1)), H⟩, Nat.lt_succ_self _, Less.mk' ⟨rfl, rfl, tv⟩ ⟨rfl, tv⟩⟩))))
 replace H := of_f H h14
 refine WC.exit (Qx (Qx (Qh (Qn ?_))))
 refine Ws (Wg (Wr 1 tk sg0 rfl rfl tv (Wn (Qn (Wt ?_)))))
 cases H
 exact Ea rfl rfl rfl tv
theorem ref10_Check_f : hasFunc Tryd.prog 5 Tryd.f5 := ⟨Tryd.func5, rfl, by kernel_rfl⟩

theorem decl_units_0 (a0 : Int) (a1 : Int) {r : Bool} (H : decl_units a0 a1 = some r) : LJ.Spec Tryd.prog 62 [.d (.int .i64 a0), .d (.int .i64 a1)] [] (.d (.bool r)) [] := by
 refine LJ.Spec.code Tryd.func62 rfl 12 rfl rfl [] rfl fun w0 F0 S0 B0 => ?_
 unfold decl_units at H
 refine Ws (Wg (Wr 1 tk sg0 rfl rfl tv (Wn (Qn (Ws (Wg (Wr 4 tk sg0 rfl rfl tv (Wx 2 3 true tk sg0 rfl rfl (fun _ => tv) (Wr 2 tk sg0 rfl rfl ⟨by first | exact id | exact fun h => by rw [h]; rfl | simp_all, tv⟩ (Wn (Qn (Wt ?_))))))))))))
 cases H
 exact Ea rfl rfl rfl tv
theorem decl_units_f : hasFunc Tryd.prog 62 Tryd.f62 := ⟨Tryd.func62, rfl, by kernel_rfl⟩

theorem word_Fits_0 (a0 : Int) {r : Bool} (H : word_Fits a0 = some r) : LJ.Spec Tryd.prog 63 [.d (.int .i64 a0)] [] (.d (.bool r)) [] := by
 refine LJ.Spec.code Tryd.func63 rfl 8 rfl rfl [] rfl fun w0 F0 S0 B0 => ?_
 unfold word_Fits at H
 refine Ws (Wg (Wr 1 tk sg0 rfl rfl tv (Wn (Qn (Ws (Wg (Wr 6 tk sg0 rfl rfl tv (Wn (Qn (Wt ?_))))))))))
 cases H
 exact Ea rfl rfl rfl tv
theorem word_Fits_f : hasFunc Tryd.prog 63 Tryd.f63 := ⟨Tryd.func63, rfl, by kernel_rfl⟩

theorem decl_Fits_0 (a0 : List T_api_Decl) (a1 : Int) (a2 : Int) {r : Bool} (H : decl_Fits a0 a1 a2 = some r) : LJ.Spec Tryd.prog 54 [.d (slT enc_api_Decl a0), .d (.int .u8 a1), .d (.int .i64 a2)] [] (.d (.bool r)) [] := by
 refine LJ.Spec.code Tryd.func54 rfl 62 rfl rfl [] rfl fun w0 F0 S0 B0 => ?_
 unfold decl_Fits at H
 refine Ws (Wg (Wr 1 tk sg0 rfl rfl tv (Wn (Qn (Ws (Ws (Wg (Wr 3 tk sg0 rfl rfl tv (Wx 4 2 false tk sg0 rfl rfl (fun _ => tv) (Wr 1 tk sg0 rfl rfl ⟨by first | exact id | exact fun h => by rw [h]; rfl | simp_all, tv⟩ (Wn (Qn (Wc rfl (fun h1 => ?_) (fun h1 => ?_))))))))))))))
 ·replace H := of_t H h1
  refine Ws (Wg (Wr 1 tk sg0 rfl rfl tv (Wn (Qn (Wt (QT.r ?_))))))
  cases H
  exact Ea rfl rfl rfl tv
 replace H := of_f H h1
 refine Wk (Qn (Ws (Wg ?_)))
 obtain ⟨g2, H⟩ := of_need H
 refine Wr 6 tk sg0 rfl rfl ⟨⟨(nIn_ok g2).1, (nIn_ok g2).2, rfl⟩, tv⟩ (Wn (Qn (Ws (Ws (Wg (Wr 1 tk sg0 rfl rfl tv (Wn (Qn (Wb (Ws (Wg (Wr 2 tk sg0 rfl rfl tv (Wn (Qn (Wc rfl (fun h3 => ?_) (fun h3 => ?_))))))))))))))))
 ·replace H := of_t H h3
  refine Ws (Wg (Wr 3 tk sg0 rfl rfl tv (Wx 2 2 false tk sg0 rfl rfl (fun _ => tv) (Wr 2 tk sg0 rfl rfl ⟨by first | exact id | exact fun h => by rw [h]; rfl | simp_all, tv⟩ (Wn (Qn (Wt (QB.r (QT.r ?_)))))))))
  cases H
  exact Ea rfl rfl rfl tv
 replace H := of_f H h3
 refine Ws (Wg (Wr 2 tk sg0 rfl rfl tv (Wn (Qn (Wc rfl (fun h4 => ?_) (fun h4 => ?_))))))
 ·replace H := of_t H h4
  refine Ws (Wg (Wr 3 tk sg0 rfl rfl tv (Wn (Qn (Wt (QB.r (QT.r ?_)))))))
  cases H
  exact Ea rfl rfl rfl tv
 replace H := of_f H h4
 refine Ws (Wg (Wr 2 tk sg0 rfl rfl tv (Wn (Qn (Wc rfl (fun h5 => ?_) (fun h5 => ?_))))))
 ·replace H := of_t H h5
  refine Ws (Wg (Wr 3 tk sg0 rfl rfl tv (Wn (Qn (Wt (QB.r (QT.r ?_)))))))
  cases H
  exact Ea rfl rfl rfl tv
 replace H := of_f H h5
 refine Ws (Wg (Wr 2 tk sg0 rfl rfl tv (Wn (Qn (Wc rfl (fun h6 => ?_) (fun h6 => ?_))))))
 ·replace H := of_t H h6
  refine Ws (Wg (Wr 3 tk sg0 rfl rfl tv (Wn (Qn (Wt (QB.r (QT.r ?_)))))))
  cases H
  exact Ea rfl rfl rfl tv
 replace H := of_f H h6
 refine Ws (Wg (Wr 2 tk sg0 rfl rfl tv (Wn (Qn (Wc rfl (fun h7 => ?_) (fun h7 => ?_))))))
 ·replace H := of_t H h7
  refine Ws (Wg (Wr 3 tk sg0 rfl rfl tv (Wn (Qn (Wt (QB.r (QT.r ?_)))))))
  cases H
  exact Ea rfl rfl rfl tv
 replace H := of_f H h7
 refine Ws (Wg (Wr 2 tk sg0 rfl rfl tv (Wn (Qn (Wc rfl (fun h8 => ?_) (fun h8 => ?_))))))
 ·replace H := of_t H h8
  refine Ws (Wg (Wr 3 tk sg0 rfl rfl tv (Wn (Qn (Wt (QB.r (QT.r ?_)))))))
  cases H
  exact Ea rfl rfl rfl tv
 replace H := of_f H h8
 refine Ws (Wg (Wr 2 tk sg0 rfl rfl tv (Wn (Qn (Wc rfl (fun h9 => ?_) (fun h9 => ?_))))))
 ·replace H := of_t H h9
  refine Ws (Wg (Wr 3 tk sg0 rfl rfl tv (Wn (Qn (Wt (QB.r (QT.r ?_)))))))
  cases H
  exact Ea rfl rfl rfl tv
 replace H := of_f H h9
 refine Ws (Wg (Wr 2 tk sg0 rfl rfl tv (Wn (Qn (Wc rfl (fun h10 => ?_) (fun h10 => ?_))))))
 ·replace H := of_t H h10
  refine Ws (Wg (Wr 3 tk sg0 rfl rfl tv (Wx 2 2 false tk sg0 rfl rfl (fun _ => tv) (Wr 2 tk sg0 rfl rfl ⟨by first | exact id | exact fun h => by rw [h]; rfl | simp_all, tv⟩ (Wn (Qn (Wt (QB.r (QT.r ?_)))))))))
  cases H
  exact Ea rfl rfl rfl tv
 replace H := of_f H h10
 refine Wk (Qb (Qn ?_))
 refine Ws (Wg (Wr 1 tk sg0 rfl rfl tv (Wn (Qn (Wt ?_)))))
 cases H
 exact Ea rfl rfl rfl tv
theorem decl_Fits_f : hasFunc Tryd.prog 54 Tryd.f54 := ⟨Tryd.func54, rfl, by kernel_rfl⟩

theorem decl_one_0 (a0 : List T_api_Decl) (a1 : T_api_Decl) {r : Int} (H : decl_one a0 a1 = some r) : LJ.Spec Tryd.prog 47 [.d (slT enc_api_Decl a0), .d (.agg [.int .i64 a1.Kind, .int .i64 a1.A, .int .i64 a1.B])] [] (.d (.int .i64 r)) [] := by
 refine LJ.Spec.code Tryd.func47 rfl 62 rfl rfl [] rfl fun w0 F0 S0 B0 => ?_
 unfold decl_one at H
 refine Ws (Wg (We 103 tk ek eg0 rfl rfl rfl tv (Wr 1 tk sg0 rfl rfl tv (Wn (Qn (Ws (Hp (.one 0 true (.one 1 true (.one 2 true (.one 3 true (.one 4 true (.one 5 true (.one 6 true (.one 7 true (.one 8 true (.one 9 true .done)))))))))) [103] [103] rfl (by kernel_rfl) rfl (by kernel_rfl) rfl rfl (fun _ h => h) rfl rfl rfl (fun _ _ _ h => h) fun FK NK wK K => (Hr 4 tk rfl rfl rfl rfl tv (WH.sect 3 3 true tk rfl rfl rfl rfl (fun _ => tv) (Hr 3 tk rfl rfl rfl rfl ⟨by first | exact id | exact fun h => by rw [h]; rfl | simp_all, tv⟩ (WH.nil rfl (Qn (Ws (Ws (Wg (Wr 2 tk sg0 rfl rfl tv (Wn (Qn (Wb (Ws (Wg (Wr 2 tk sg0 rfl rfl tv (Wn (Qn (Wc rfl (fun h1 => ?_) (fun h1 => ?_))))))))))))))))))))))))))
 ·replace H := of_t H h1
  refine Wg (Wr 2 tk sg0 rfl rfl tv ?_)
  obtain ⟨x2, hx2, H⟩ := of_bind H
  refine Wf [] (decl_units_0 _ _ hx2) decl_units_f rfl rfl tv rfl rfl rfl (Wr 1 tk sg0 rfl rfl tv (Wx 3 3 true tk sg0 rfl rfl (fun _ => tv) (Wr 2 tk sg0 rfl rfl ⟨by first | exact id | exact fun h => by rw [h]; rfl | simp_all, tv⟩ (Wx 5 8 true tk sg0 rfl rfl (fun _ => tv) (Wr 3 tk sg0 rfl rfl ⟨by first | exact id | exact fun h => by rw [h]; rfl | simp_all, tv⟩ (Wn (Qb (Qn ?_))))))))
  refine Ws (Ws (Wg (Wr 2 tk sg0 rfl rfl tv (Wn (Qn (Wc rfl (fun h3 => ?_) (fun h3 => ?_)))))))
  ·replace H := of_t H h3
   refine Ws (Wg (Wr 1 tk sg0 rfl rfl tv (Wn (Qn (Wt (QT.r ?_))))))
   cases H
   exact Ea rfl rfl rfl tv
  replace H := of_f H h3
  refine Wk (Qn (Ws (Ws (Wg (Wr 2 tk sg0 rfl rfl tv (Wn (Qn (Wc rfl (fun h => absurd h (by decide)) (fun h => ?_)))))))))
  refine Wk (Qn (Ws (Wg (Wr 1 tk sg0 rfl rfl tv (Wn (Qn (Wt ?_)))))))
  cases H
  exact Ea rfl rfl rfl tv
 replace H := of_f H h1
 refine Ws (Wg (Wr 2 tk sg0 rfl rfl tv (Wn (Qn (Wc rfl (fun h4 => ?_) (fun h4 => ?_))))))
 ·replace H := of_t H h4
  refine Hp (.one 0 true (.one 1 true (.one 3 true (.one 4 true (.one 5 true (.one 2 false (.one 6 true (.one 7 true .done)))))))) [103] [103] rfl (by kernel_rfl) rfl (by kernel_rfl) rfl rfl (fun _ h => h) rfl rfl rfl (fun _ _ _ h => h) fun FK NK wK K => (Hr 5 tk rfl rfl rfl rfl tv ?_)
  obtain ⟨x5, hx5, H⟩ := of_bind H
  refine WH.call [] rfl (decl_units_0 _ _ hx5) decl_units_f rfl rfl tv rfl rfl rfl rfl rfl (Hr 2 tk rfl rfl rfl rfl tv (WH.nil rfl (Qb (Qn ?_))))
  refine Ws (Ws (Wg (Wr 2 tk sg0 rfl rfl tv (Wn (Qn (Wc rfl (fun h6 => ?_) (fun h6 => ?_)))))))
  ·replace H := of_t H h6
   refine Ws (Wg (Wr 1 tk sg0 rfl rfl tv (Wn (Qn (Wt (QT.r ?_))))))
   cases H
   exact Ea rfl rfl rfl tv
  replace H := of_f H h6
  refine Wk (Qn (Ws (Ws (Wg (Wr 2 tk sg0 rfl rfl tv (Wn (Qn (Wc rfl (fun h7 => ?_) (fun h7 => ?_)))))))))
  ·replace H := of_t H h7
   refine Ws (Wg (Wr 1 tk sg0 rfl rfl tv (Wn (Qn (Wt (QT.r ?_))))))
   cases H
   exact Ea rfl rfl rfl tv
  replace H := of_f H h7
  refine Wk (Qn (Ws (Wg (Wr 1 tk sg0 rfl rfl tv (Wn (Qn (Wt ?_)))))))
  cases H
  exact Ea rfl rfl rfl tv
 replace H := of_f H h4
 refine Ws (Wg (Wr 2 tk sg0 rfl rfl tv (Wn (Qn (Wc rfl (fun h8 => ?_) (fun h8 => ?_))))))
 ·replace H := of_t H h8
  refine Wg (Wr 2 tk sg0 rfl rfl tv ?_)
  obtain ⟨x9, hx9, H⟩ := of_bind H
  refine Wf [] (word_Fits_0 _ hx9) word_Fits_f rfl rfl tv rfl rfl rfl (Wr 1 tk sg0 rfl rfl tv ?_)
  obtain ⟨x10, hx10, H⟩ := of_bind H
  refine Wx 4 3 true tk [PSig.at' decl_Fits_f (x9 = true) rfl (fun hb => decl_Fits_0 _ _ _ (of_t hx10 hb))] rfl rfl (fun hb => ⟨⟨hb, rfl⟩, tv⟩) (Wr 3 tk sg0 rfl rfl ⟨by first | exact id | exact fun h => by rw [h]; rfl | simp_all, tv⟩ (Wn (Qb (Qn ?_))))
  refine Ws (Ws (Wg (Wr 2 tk sg0 rfl rfl tv (Wn (Qn (Wc rfl (fun h11 => ?_) (fun h11 => ?_)))))))
  ·replace H := of_t H h11
   refine Ws (Wg (Wr 1 tk sg0 rfl rfl tv (Wn (Qn (Wt (QT.r ?_))))))
   cases H
   exact Ea rfl rfl rfl tv
  replace H := of_f H h11
  refine Wk (Qn (Ws (Ws (Wg (Wr 2 tk sg0 rfl rfl tv (Wn (Qn (Wc rfl (fun h => absurd h (by decide)) (fun h => ?_)))))))))
  refine Wk (Qn (Ws (Wg (Wr 1 tk sg0 rfl rfl tv (Wn (Qn (Wt ?_)))))))
  cases H
  exact Ea rfl rfl rfl tv
 replace H := of_f H h8
 refine Ws (Ws (Wg (Wr 2 tk sg0 rfl rfl tv (Wn (Qn (Wc rfl (fun h12 => ?_) (fun h12 => ?_)))))))
 ·replace H := of_t H h12
  refine WC.known (g := 53) true rfl h12 (Wk (Qn (Wc rfl (fun h => ?_) (fun h => absurd h (by decide)))))
  refine Wk (Qb (Qn ?_))
  refine Ws (Ws (Wg (Wr 2 tk sg0 rfl rfl tv (Wn (Qn (Wc rfl (fun h => absurd h (by decide)) (fun h => ?_)))))))
  refine Wk (Qn (Ws (Ws (Wg (Wr 2 tk sg0 rfl rfl tv (Wn (Qn (Wc rfl (fun h13 => ?_) (fun h13 => ?_)))))))))
  ·replace H := of_t H h13
   refine Ws (Wg (Wr 1 tk sg0 rfl rfl tv (Wn (Qn (Wt (QT.r ?_))))))
   cases H
   exact Ea rfl rfl rfl tv
  replace H := of_f H h13
  refine Wk (Qn (Ws (Wg (Wr 1 tk sg0 rfl rfl tv (Wn (Qn (Wt ?_)))))))
  cases H
  exact Ea rfl rfl rfl tv
 replace H := of_f H h12
 refine Ws (Wg (Wr 2 tk sg0 rfl rfl tv (Wn (Qn (Wc rfl (fun h14 => ?_) (fun h14 => ?_))))))
 ·replace H := of_t H h14
  refine WC.known (g := 53) true rfl h14 (Wk (Qn (Wc rfl (fun h => ?_) (fun h => absurd h (by decide)))))
  refine Wk (Qb (Qn ?_))
  refine Ws (Ws (Wg (Wr 2 tk sg0 rfl rfl tv (Wn (Qn (Wc rfl (fun h => absurd h (by decide)) (fun h => ?_)))))))
  refine Wk (Qn (Ws (Ws (Wg (Wr 2 tk sg0 rfl rfl tv (Wn (Qn (Wc rfl (fun h15 => ?_) (fun h15 => ?_)))))))))
  ·replace H := of_t H h15
   refine Ws (Wg (Wr 1 tk sg0 rfl rfl tv (Wn (Qn (Wt (QT.r ?_))))))
   cases H
   exact Ea rfl rfl rfl tv
  replace H := of_f H h15
  refine Wk (Qn (Ws (Wg (Wr 1 tk sg0 rfl rfl tv (Wn (Qn (Wt ?_)))))))
  cases H
  exact Ea rfl rfl rfl tv
 replace H := of_f H h14
 refine Ws (Wg (Wr 2 tk sg0 rfl rfl tv (Wn (Qn (Wc rfl (fun h16 => ?_) (fun h16 => ?_))))))
 ·replace H := of_t H h16
  refine WC.known (g := 53) true rfl h16 (Wk (Qn (Wc rfl (fun h => ?_) (fun h => absurd h (by decide)))))
  refine Wk (Qb (Qn ?_))
  refine Ws (Ws (Wg (Wr 2 tk sg0 rfl rfl tv (Wn (Qn (Wc rfl (fun h => absurd h (by decide)) (fun h => ?_)))))))
  refine Wk (Qn (Ws (Ws (Wg (Wr 2 tk sg0 rfl rfl tv (Wn (Qn (Wc rfl (fun h17 => ?_) (fun h17 => ?_)))))))))
  ·replace H := of_t H h17
   refine Ws (Wg (Wr 1 tk sg0 rfl rfl tv (Wn (Qn (Wt (QT.r ?_))))))
   cases H
   exact Ea rfl rfl rfl tv
  replace H := of_f H h17
  refine Wk (Qn (Ws (Wg (Wr 1 tk sg0 rfl rfl tv (Wn (Qn (Wt ?_)))))))
  cases H
  exact Ea rfl rfl rfl tv
 replace H := of_f H h16
 refine Wg (Wr 2 tk sg0 rfl rfl tv (Wn (Qn (Wc rfl (fun h18 => ?_) (fun h18 => ?_)))))
 ·replace H := of_t H h18
  refine Wk (Qb (Qn ?_))
  refine Ws (Ws (Wg (Wr 2 tk sg0 rfl rfl tv (Wn (Qn (Wc rfl (fun h => absurd h (by decide)) (fun h => ?_)))))))
  refine Wk (Qn (Ws (Ws (Wg (Wr 2 tk sg0 rfl rfl tv (Wn (Qn (Wc rfl (fun h19 => ?_) (fun h19 => ?_)))))))))
  ·replace H := of_t H h19
   refine Ws (Wg (Wr 1 tk sg0 rfl rfl tv (Wn (Qn (Wt (QT.r ?_))))))
   cases H
   exact Ea rfl rfl rfl tv
  replace H := of_f H h19
  refine Wk (Qn (Ws (Wg (Wr 1 tk sg0 rfl rfl tv (Wn (Qn (Wt ?_)))))))
  cases H
  exact Ea rfl rfl rfl tv
 replace H := of_f H h18
 refine Ws (Wg (Wr 1 tk sg0 rfl rfl tv (Wn (Qn (Wt (QB.r (QT.r ?_)))))))
 cases H
 exact Ea rfl rfl rfl tv
theorem decl_one_f : hasFunc Tryd.prog 47 Tryd.f47 := ⟨Tryd.func47, rfl, by kernel_rfl⟩

theorem decl_Check_0 (a0 : List T_api_Decl) {r : Int × Int} (H : decl_Check a0 = some r) : LJ.Spec Tryd.prog 29 [.d (slT enc_api_Decl a0)] [] (.tup [.d (.int .i64 r.1), .d (.int .i64 r.2)]) [] := by
 refine LJ.Spec.code Tryd.func29 rfl 25 rfl rfl [] rfl fun w0 F0 S0 B0 => ?_
 unfold decl_Check at H
 refine Ws (Wg (Wr 2 tk sg0 rfl rfl tv (Wn (Qn (Ws (Ws (Wg (Wr 3 tk sg0 rfl rfl tv (Wn (Qn (Wc rfl (fun h1 => ?_) (fun h1 => ?_))))))))))))
 ·replace H := of_t H h1
  refine Ws (Wg (Wr 2 tk sg0 rfl rfl tv (Wn (Qn (Wt (QT.r ?_))))))
  cases H
  exact Ea rfl rfl rfl tv
 replace H := of_f H h1
 refine Wk (Qn (Ws (Ws (Wg (Wr 3 tk sg0 rfl rfl tv (Wn (Qn (Wb (Wl (ι := {x : Nat × Int // decl_Check_l3 a0 x.1 x.2 = some r}) (fun x => [(0, .d (slT enc_api_Decl a0)), (10, .d (slT enc_api_Decl a0)), (11, .d (.int .i64 (a0.length : Int))), (12, .d (.int .i64 x.1.2))]) (fun x => []) (fun x => x.1.1) ⟨(fuel, 0), H⟩ (Less.mk' ⟨rfl, rfl, rfl, rfl, tv⟩ tv) fun x => ?_)))))))))
 obtain ⟨⟨k3, s2⟩, H⟩ := x
 rcases k3 with _ | k3
 ·exact of_none H
 rw [decl_Check_l3] at H
 refine Ws (Wg (Wr 1 tk sg0 rfl rfl tv (Wn (Qn (Ws (Wc rfl (fun h4 => ?_) (fun h4 => ?_)))))))
 ·replace H := of_t H h4
  refine Wk (Qn (Ws (Wb (Ws (Wg ?_)))))
  obtain ⟨g5, H⟩ := of_need H
  refine Wr 3 tk sg0 rfl rfl ⟨⟨(nIn_ok g5).1, (nIn_ok g5).2, rfl⟩, tv⟩ (Wa 105 tk rfl rfl rfl (Wr 1 tk sg0 rfl rfl tv (We 0 tk ek eg0 rfl rfl rfl tv (Wn (Qn (Ws (Wg (Wr 2 tk sg0 rfl rfl tv ?_))))))))
  obtain ⟨x6, hx6, H⟩ := of_bind H
  refine Wf [] (decl_one_0 _ _ hx6) decl_one_f rfl rfl tv rfl rfl rfl (Wr 1 tk sg0 rfl rfl tv (Wn (Qn (Ws (Wg (Wr 2 tk sg0 rfl rfl tv (Wn (Qn (Wc rfl (fun h7 => ?_) (fun h7 => ?_))))))))))
  ·replace H := of_t H h7
   refine Ws (Wg (Wr 4 tk sg0 rfl rfl tv (Wn (Qn (Wt (QB.r (QT.r (QT.r (QB.r (QT.r ?_))))))))))
   cases H
   exact Ea rfl rfl rfl tv
  replace H := of_f H h7
  refine Wk (Qb (Qn ?_))
  exact Wg (Wr 2 tk sg0 rfl rfl tv (Wn (Qn (⟨⟨(k3, IntKind.i64.wrap (s2 + 1)), H⟩, Nat.lt_succ_self _, Less.mk' ⟨rfl, rfl, rfl, rfl, tv⟩ tv⟩))))
 replace H := of_f H h4
 refine WC.exit (Qx (Qx (Qh (Qn ?_))))
 refine Ws (Wg (Wr 2 tk sg0 rfl rfl tv (Wn (Qn (Wt ?_)))))
 cases H
 exact Ea rfl rfl rfl tv
theorem decl_Check_f : hasFunc Tryd.prog 29 Tryd.f29 := ⟨Tryd.func29, rfl, by kernel_rfl⟩

theorem need_counted_0 (a0 : Int) {r : Bool} (H : need_counted a0 = some r) : LJ.Spec Tryd.prog 76 [.d (.int .i64 a0)] [] (.d (.bool r)) [] := by
 refine LJ.Spec.code Tryd.func76 rfl 9 rfl rfl [] rfl fun w0 F0 S0 B0 => ?_
 unfold need_counted at H
 refine Ws (Wg (Wr 1 tk sg0 rfl rfl tv (Wn (Qn (Ws (Wg (Wr 3 tk sg0 rfl rfl tv (Wx 2 2 false tk sg0 rfl rfl (fun _ => tv) (Wr 2 tk sg0 rfl rfl ⟨by first | exact id | exact fun h => by rw [h]; rfl | simp_all, tv⟩ (Wn (Qn (Wt ?_))))))))))))
 cases H
 exact Ea rfl rfl rfl tv
theorem need_counted_f : hasFunc Tryd.prog 76 Tryd.f76 := ⟨Tryd.func76, rfl, by kernel_rfl⟩

theorem need_one_0 (a0 : List T_api_Decl) (a1 : T_api_Need) {r : Int} (H : need_one a0 a1 = some r) : LJ.Spec Tryd.prog 64 [.d (slT enc_api_Decl a0), .d (.agg [.int .i64 a1.Kind, .int .i64 a1.Obj, .int .i64 a1.N])] [] (.d (.int .i64 r)) [] := by
 refine LJ.Spec.code Tryd.func64 rfl 74 rfl rfl [] rfl fun w0 F0 S0 B0 => ?_
 unfold need_one at H
 refine Ws (Wg (We 103 tk ek eg0 rfl rfl rfl tv (Wr 1 tk sg0 rfl rfl tv (Wn (Qn (Ws (Wg (Wr 2 tk sg0 rfl rfl tv (Wn (Qn (Ws (Ws (Wg (Wr 2 tk sg0 rfl rfl tv (Wn (Qn (Wb (Ws (Wg (Wr 2 tk sg0 rfl rfl tv (Wn (Qn (Wc rfl (fun h1 => ?_) (fun h1 => ?_))))))))))))))))))))))))
 ·replace H := of_t H h1
  refine Wg (Wr 1 tk sg0 rfl rfl tv (Wn (Qb (Qn ?_))))
  refine Ws (Ws (Wg (Wr 4 tk sg0 rfl rfl tv ?_)))
  obtain ⟨x2, hx2, H⟩ := of_bind H
  refine Wf [] (decl_Fits_0 _ _ _ hx2) decl_Fits_f rfl rfl tv rfl rfl rfl (Wr 2 tk sg0 rfl rfl tv (Wx 3 6 false tk sg0 rfl rfl (fun _ => tv) ?_))
  obtain ⟨g3, H⟩ := of_needS H
  refine Wx 7 9 true tk sg0 rfl rfl (fun hb => ⟨⟨(nIn_ok (g3 hb)).1, (nIn_ok (g3 hb)).2, rfl⟩, tv⟩) (Wx 1 6 false tk sg0 rfl rfl (fun hb => ⟨by first | exact id | exact ⟨hb, fun h => by rw [hb, h]; rfl⟩ | exact ⟨hb, id⟩ | exact fun h => by rw [hb, h]; rfl | exact fun h => by rw [h]; rfl | simp_all, tv⟩) (Wr 1 tk sg0 rfl rfl ⟨by first | exact id | exact fun h => by rw [h]; rfl | simp_all, tv⟩ (Wn (Qn (Wc rfl (fun h4 => ?_) (fun h4 => ?_))))))
  ·replace H := of_t H h4
   refine Ws (Wg (Wr 1 tk sg0 rfl rfl tv (Wn (Qn (Wt (QT.r ?_))))))
   cases H
   exact Ea rfl rfl rfl tv
  replace H := of_f H h4
  refine Wk (Qn (Ws (Ws (Wg (Wr 2 tk sg0 rfl rfl tv (Wn (Qn (Wb (Ws (Wg (Wr 2 tk sg0 rfl rfl tv (Wn (Qn (Wc rfl (fun h5 => ?_) (fun h5 => ?_)))))))))))))))
  ·replace H := of_t H h5
   refine Wg ?_
   obtain ⟨g6, H⟩ := of_need H
   refine Wr 7 tk sg0 rfl rfl ⟨⟨(nIn_ok g6).1, (nIn_ok g6).2, rfl⟩, tv⟩ (Wn (Qb (Qn ?_)))
   refine Ws (Ws (Wg (Wr 2 tk sg0 rfl rfl tv ?_)))
   obtain ⟨x7, hx7, H⟩ := of_bind H
   refine Wf [] (need_counted_0 _ hx7) need_counted_f rfl rfl tv rfl rfl rfl (Wr 1 tk sg0 rfl rfl tv (Wx 3 3 true tk sg0 rfl rfl (fun _ => tv) (Wr 2 tk sg0 rfl rfl ⟨by first | exact id | exact fun h => by rw [h]; rfl | simp_all, tv⟩ (Wx 3 8 false tk sg0 rfl rfl (fun _ => tv) (Wr 2 tk sg0 rfl rfl ⟨by first | exact id | exact fun h => by rw [h]; rfl | simp_all, tv⟩ (Wx 4 13 false tk sg0 rfl rfl (fun _ => tv) (Wr 1 tk sg0 rfl rfl ⟨by first | exact id | exact fun h => by rw [h]; rfl | simp_all, tv⟩ (Wn (Qn (Wc rfl (fun h8 => ?_) (fun h8 => ?_)))))))))))
   ·replace H := of_t H h8
    refine Ws (Wg (Wr 1 tk sg0 rfl rfl tv (Wn (Qn (Wt (QT.r ?_))))))
    cases H
    exact Ea rfl rfl rfl tv
   replace H := of_f H h8
   refine Wk (Qn (Ws (Wg (Wr 1 tk sg0 rfl rfl tv (Wn (Qn (Wt ?_)))))))
   cases H
   exact Ea rfl rfl rfl tv
  replace H := of_f H h5
  refine Ws (Wg (Wr 2 tk sg0 rfl rfl tv (Wn (Qn (Wc rfl (fun h9 => ?_) (fun h9 => ?_))))))
  ·replace H := of_t H h9
   refine Wg ?_
   obtain ⟨g10, H⟩ := of_need H
   refine Wr 7 tk sg0 rfl rfl ⟨⟨(nIn_ok g10).1, (nIn_ok g10).2, rfl⟩, tv⟩ (Wn (Qb (Qn ?_)))
   refine Ws (Ws (Wg (Wr 2 tk sg0 rfl rfl tv ?_)))
   obtain ⟨x11, hx11, H⟩ := of_bind H
   refine Wf [] (need_counted_0 _ hx11) need_counted_f rfl rfl tv rfl rfl rfl (Wr 1 tk sg0 rfl rfl tv (Wx 3 3 true tk sg0 rfl rfl (fun _ => tv) (Wr 2 tk sg0 rfl rfl ⟨by first | exact id | exact fun h => by rw [h]; rfl | simp_all, tv⟩ (Wx 3 8 false tk sg0 rfl rfl (fun _ => tv) (Wr 2 tk sg0 rfl rfl ⟨by first | exact id | exact fun h => by rw [h]; rfl | simp_all, tv⟩ (Wx 4 13 false tk sg0 rfl rfl (fun _ => tv) (Wr 1 tk sg0 rfl rfl ⟨by first | exact id | exact fun h => by rw [h]; rfl | simp_all, tv⟩ (Wn (Qn (Wc rfl (fun h12 => ?_) (fun h12 => ?_)))))))))))
   ·replace H := of_t H h12
    refine Ws (Wg (Wr 1 tk sg0 rfl rfl tv (Wn (Qn (Wt (QT.r ?_))))))
    cases H
    exact Ea rfl rfl rfl tv
   replace H := of_f H h12
   refine Wk (Qn (Ws (Wg (Wr 1 tk sg0 rfl rfl tv (Wn (Qn (Wt ?_)))))))
   cases H
   exact Ea rfl rfl rfl tv
  replace H := of_f H h9
  refine Wk (Qb (Qn ?_))
  refine Ws (Ws (Wg (Wr 2 tk sg0 rfl rfl tv ?_)))
  obtain ⟨x13, hx13, H⟩ := of_bind H
  refine Wf [] (need_counted_0 _ hx13) need_counted_f rfl rfl tv rfl rfl rfl (Wr 1 tk sg0 rfl rfl tv (Wx 3 3 true tk sg0 rfl rfl (fun _ => tv) (Wr 2 tk sg0 rfl rfl ⟨by first | exact id | exact fun h => by rw [h]; rfl | simp_all, tv⟩ (Wx 3 8 false tk sg0 rfl rfl (fun _ => tv) (Wr 2 tk sg0 rfl rfl ⟨by first | exact id | exact fun h => by rw [h]; rfl | simp_all, tv⟩ (Wx 4 13 false tk sg0 rfl rfl (fun _ => tv) (Wr 1 tk sg0 rfl rfl ⟨by first | exact id | exact fun h => by rw [h]; rfl | simp_all, tv⟩ (Wn (Qn (Wc rfl (fun h14 => ?_) (fun h14 => ?_)))))))))))
  ·replace H := of_t H h14
   refine Ws (Wg (Wr 1 tk sg0 rfl rfl tv (Wn (Qn (Wt (QT.r ?_))))))
   cases H
   exact Ea rfl rfl rfl tv
  replace H := of_f H h14
  refine Wk (Qn (Ws (Wg (Wr 1 tk sg0 rfl rfl tv (Wn (Qn (Wt ?_)))))))
  cases H
  exact Ea rfl rfl rfl tv
 replace H := of_f H h1
 refine Ws (Ws (Wg (Wr 2 tk sg0 rfl rfl tv (Wn (Qn (Wc rfl (fun h15 => ?_) (fun h15 => ?_)))))))
 ·replace H := of_t H h15
  refine WC.known (g := 11) true rfl h15 (Wk (Qn (Wc rfl (fun h => ?_) (fun h => absurd h (by decide)))))
  refine Wk (Qb (Qn ?_))
  refine Ws (Ws (Wg (Wr 4 tk sg0 rfl rfl tv ?_)))
  obtain ⟨x16, hx16, H⟩ := of_bind H
  refine Wf [] (decl_Fits_0 _ _ _ hx16) decl_Fits_f rfl rfl tv rfl rfl rfl (Wr 2 tk sg0 rfl rfl tv (Wx 3 6 false tk sg0 rfl rfl (fun _ => tv) ?_))
  obtain ⟨g17, H⟩ := of_needS H
  refine Wx 7 9 true tk sg0 rfl rfl (fun hb => ⟨⟨(nIn_ok (g17 hb)).1, (nIn_ok (g17 hb)).2, rfl⟩, tv⟩) (Wx 1 6 false tk sg0 rfl rfl (fun hb => ⟨by first | exact id | exact ⟨hb, fun h => by rw [hb, h]; rfl⟩ | exact ⟨hb, id⟩ | exact fun h => by rw [hb, h]; rfl | exact fun h => by rw [h]; rfl | simp_all, tv⟩) (Wr 1 tk sg0 rfl rfl ⟨by first | exact id | exact fun h => by rw [h]; rfl | simp_all, tv⟩ (Wn (Qn (Wc rfl (fun h18 => ?_) (fun h18 => ?_))))))
  ·replace H := of_t H h18
   refine Ws (Wg (Wr 1 tk sg0 rfl rfl tv (Wn (Qn (Wt (QT.r ?_))))))
   cases H
   exact Ea rfl rfl rfl tv
  replace H := of_f H h18
  refine Wk (Qn (Ws (Ws (Wg (Wr 2 tk sg0 rfl rfl tv (Wn (Qn (Wb (Ws (Wg (Wr 2 tk sg0 rfl rfl tv (Wn (Qn (Wc rfl (fun h19 => ?_) (fun h19 => ?_)))))))))))))))
  ·replace H := of_t H h19
   refine Wg ?_
   obtain ⟨g20, H⟩ := of_need H
   refine Wr 7 tk sg0 rfl rfl ⟨⟨(nIn_ok g20).1, (nIn_ok g20).2, rfl⟩, tv⟩ (Wn (Qb (Qn ?_)))
   refine Ws (Ws (Wg (Wr 2 tk sg0 rfl rfl tv ?_)))
   obtain ⟨x21, hx21, H⟩ := of_bind H
   refine Wf [] (need_counted_0 _ hx21) need_counted_f rfl rfl tv rfl rfl rfl (Wr 1 tk sg0 rfl rfl tv (Wx 3 3 true tk sg0 rfl rfl (fun _ => tv) (Wr 2 tk sg0 rfl rfl ⟨by first | exact id | exact fun h => by rw [h]; rfl | simp_all, tv⟩ (Wx 3 8 false tk sg0 rfl rfl (fun _ => tv) (Wr 2 tk sg0 rfl rfl ⟨by first | exact id | exact fun h => by rw [h]; rfl | simp_all, tv⟩ (Wx 4 13 false tk sg0 rfl rfl (fun _ => tv) (Wr 1 tk sg0 rfl rfl ⟨by first | exact id | exact fun h => by rw [h]; rfl | simp_all, tv⟩ (Wn (Qn (Wc rfl (fun h22 => ?_) (fun h22 => ?_)))))))))))
   ·replace H := of_t H h22
    refine Ws (Wg (Wr 1 tk sg0 rfl rfl tv (Wn (Qn (Wt (QT.r ?_))))))
    cases H
    exact Ea rfl rfl rfl tv
   replace H := of_f H h22
   refine Wk (Qn (Ws (Wg (Wr 1 tk sg0 rfl rfl tv (Wn (Qn (Wt ?_)))))))
   cases H
   exact Ea rfl rfl rfl tv
  replace H := of_f H h19
  refine Ws (Wg (Wr 2 tk sg0 rfl rfl tv (Wn (Qn (Wc rfl (fun h23 => ?_) (fun h23 => ?_))))))
  ·replace H := of_t H h23
   refine Wg ?_
   obtain ⟨g24, H⟩ := of_need H
   refine Wr 7 tk sg0 rfl rfl ⟨⟨(nIn_ok g24).1, (nIn_ok g24).2, rfl⟩, tv⟩ (Wn (Qb (Qn ?_)))
   refine Ws (Ws (Wg (Wr 2 tk sg0 rfl rfl tv ?_)))
   obtain ⟨x25, hx25, H⟩ := of_bind H
   refine Wf [] (need_counted_0 _ hx25) need_counted_f rfl rfl tv rfl rfl rfl (Wr 1 tk sg0 rfl rfl tv (Wx 3 3 true tk sg0 rfl rfl (fun _ => tv) (Wr 2 tk sg0 rfl rfl ⟨by first | exact id | exact fun h => by rw [h]; rfl | simp_all, tv⟩ (Wx 3 8 false tk sg0 rfl rfl (fun _ => tv) (Wr 2 tk sg0 rfl rfl ⟨by first | exact id | exact fun h => by rw [h]; rfl | simp_all, tv⟩ (Wx 4 13 false tk sg0 rfl rfl (fun _ => tv) (Wr 1 tk sg0 rfl rfl ⟨by first | exact id | exact fun h => by rw [h]; rfl | simp_all, tv⟩ (Wn (Qn (Wc rfl (fun h26 => ?_) (fun h26 => ?_)))))))))))
   ·replace H := of_t H h26
    refine Ws (Wg (Wr 1 tk sg0 rfl rfl tv (Wn (Qn (Wt (QT.r ?_))))))
    cases H
    exact Ea rfl rfl rfl tv
   replace H := of_f H h26
   refine Wk (Qn (Ws (Wg (Wr 1 tk sg0 rfl rfl tv (Wn (Qn (Wt ?_)))))))
   cases H
   exact Ea rfl rfl rfl tv
  replace H := of_f H h23
  refine Wk (Qb (Qn ?_))
  refine Ws (Ws (Wg (Wr 2 tk sg0 rfl rfl tv ?_)))
  obtain ⟨x27, hx27, H⟩ := of_bind H
  refine Wf [] (need_counted_0 _ hx27) need_counted_f rfl rfl tv rfl rfl rfl (Wr 1 tk sg0 rfl rfl tv (Wx 3 3 true tk sg0 rfl rfl (fun _ => tv) (Wr 2 tk sg0 rfl rfl ⟨by first | exact id | exact fun h => by rw [h]; rfl | simp_all, tv⟩ (Wx 3 8 false tk sg0 rfl rfl (fun _ => tv) (Wr 2 tk sg0 rfl rfl ⟨by first | exact id | exact fun h => by rw [h]; rfl | simp_all, tv⟩ (Wx 4 13 false tk sg0 rfl rfl (fun _ => tv) (Wr 1 tk sg0 rfl rfl ⟨by first | exact id | exact fun h => by rw [h]; rfl | simp_all, tv⟩ (Wn (Qn (Wc rfl (fun h28 => ?_) (fun h28 => ?_)))))))))))
  ·replace H := of_t H h28
   refine Ws (Wg (Wr 1 tk sg0 rfl rfl tv (Wn (Qn (Wt (QT.r ?_))))))
   cases H
   exact Ea rfl rfl rfl tv
  replace H := of_f H h28
  refine Wk (Qn (Ws (Wg (Wr 1 tk sg0 rfl rfl tv (Wn (Qn (Wt ?_)))))))
  cases H
  exact Ea rfl rfl rfl tv
 replace H := of_f H h15
 refine Wg (Wr 2 tk sg0 rfl rfl tv (Wn (Qn (Wc rfl (fun h29 => ?_) (fun h29 => ?_)))))
 ·replace H := of_t H h29
  refine Wk (Qb (Qn ?_))
  refine Ws (Ws (Wg (Wr 4 tk sg0 rfl rfl tv ?_)))
  obtain ⟨x30, hx30, H⟩ := of_bind H
  refine Wf [] (decl_Fits_0 _ _ _ hx30) decl_Fits_f rfl rfl tv rfl rfl rfl (Wr 2 tk sg0 rfl rfl tv (Wx 3 6 false tk sg0 rfl rfl (fun _ => tv) ?_))
  obtain ⟨g31, H⟩ := of_needS H
  refine Wx 7 9 true tk sg0 rfl rfl (fun hb => ⟨⟨(nIn_ok (g31 hb)).1, (nIn_ok (g31 hb)).2, rfl⟩, tv⟩) (Wx 1 6 false tk sg0 rfl rfl (fun hb => ⟨by first | exact id | exact ⟨hb, fun h => by rw [hb, h]; rfl⟩ | exact ⟨hb, id⟩ | exact fun h => by rw [hb, h]; rfl | exact fun h => by rw [h]; rfl | simp_all, tv⟩) (Wr 1 tk sg0 rfl rfl ⟨by first | exact id | exact fun h => by rw [h]; rfl | simp_all, tv⟩ (Wn (Qn (Wc rfl (fun h32 => ?_) (fun h32 => ?_))))))
  ·replace H := of_t H h32
   refine Ws (Wg (Wr 1 tk sg0 rfl rfl tv (Wn (Qn (Wt (QT.r ?_))))))
   cases H
   exact Ea rfl rfl rfl tv
  replace H := of_f H h32
  refine Wk (Qn (Ws (Ws (Wg (Wr 2 tk sg0 rfl rfl tv (Wn (Qn (Wb (Ws (Wg (Wr 2 tk sg0 rfl rfl tv (Wn (Qn (Wc rfl (fun h33 => ?_) (fun h33 => ?_)))))))))))))))
  ·replace H := of_t H h33
   refine Wg ?_
   obtain ⟨g34, H⟩ := of_need H
   refine Wr 7 tk sg0 rfl rfl ⟨⟨(nIn_ok g34).1, (nIn_ok g34).2, rfl⟩, tv⟩ (Wn (Qb (Qn ?_)))
   refine Ws (Ws (Wg (Wr 2 tk sg0 rfl rfl tv ?_)))
   obtain ⟨x35, hx35, H⟩ := of_bind H
   refine Wf [] (need_counted_0 _ hx35) need_counted_f rfl rfl tv rfl rfl rfl (Wr 1 tk sg0 rfl rfl tv (Wx 3 3 true tk sg0 rfl rfl (fun _ => tv) (Wr 2 tk sg0 rfl rfl ⟨by first | exact id | exact fun h => by rw [h]; rfl | simp_all, tv⟩ (Wx 3 8 false tk sg0 rfl rfl (fun _ => tv) (Wr 2 tk sg0 rfl rfl ⟨by first | exact id | exact fun h => by rw [h]; rfl | simp_all, tv⟩ (Wx 4 13 false tk sg0 rfl rfl (fun _ => tv) (Wr 1 tk sg0 rfl rfl ⟨by first | exact id | exact fun h => by rw [h]; rfl | simp_all, tv⟩ (Wn (Qn (Wc rfl (fun h36 => ?_) (fun h36 => ?_)))))))))))
   ·replace H := of_t H h36
    refine Ws (Wg (Wr 1 tk sg0 rfl rfl tv (Wn (Qn (Wt (QT.r ?_))))))
    cases H
    exact Ea rfl rfl rfl tv
   replace H := of_f H h36
   refine Wk (Qn (Ws (Wg (Wr 1 tk sg0 rfl rfl tv (Wn (Qn (Wt ?_)))))))
   cases H
   exact Ea rfl rfl rfl tv
  replace H := of_f H h33
  refine Ws (Wg (Wr 2 tk sg0 rfl rfl tv (Wn (Qn (Wc rfl (fun h37 => ?_) (fun h37 => ?_))))))
  ·replace H := of_t H h37
   refine Wg ?_
   obtain ⟨g38, H⟩ := of_need H
   refine Wr 7 tk sg0 rfl rfl ⟨⟨(nIn_ok g38).1, (nIn_ok g38).2, rfl⟩, tv⟩ (Wn (Qb (Qn ?_)))
   refine Ws (Ws (Wg (Wr 2 tk sg0 rfl rfl tv ?_)))
   obtain ⟨x39, hx39, H⟩ := of_bind H
   refine Wf [] (need_counted_0 _ hx39) need_counted_f rfl rfl tv rfl rfl rfl (Wr 1 tk sg0 rfl rfl tv (Wx 3 3 true tk sg0 rfl rfl (fun _ => tv) (Wr 2 tk sg0 rfl rfl ⟨by first | exact id | exact fun h => by rw [h]; rfl | simp_all, tv⟩ (Wx 3 8 false tk sg0 rfl rfl (fun _ => tv) (Wr 2 tk sg0 rfl rfl ⟨by first | exact id | exact fun h => by rw [h]; rfl | simp_all, tv⟩ (Wx 4 13 false tk sg0 rfl rfl (fun _ => tv) (Wr 1 tk sg0 rfl rfl ⟨by first | exact id | exact fun h => by rw [h]; rfl | simp_all, tv⟩ (Wn (Qn (Wc rfl (fun h40 => ?_) (fun h40 => ?_)))))))))))
   ·replace H := of_t H h40
    refine Ws (Wg (Wr 1 tk sg0 rfl rfl tv (Wn (Qn (Wt (QT.r ?_))))))
    cases H
    exact Ea rfl rfl rfl tv
   replace H := of_f H h40
   refine Wk (Qn (Ws (Wg (Wr 1 tk sg0 rfl rfl tv (Wn (Qn (Wt ?_)))))))
   cases H
   exact Ea rfl rfl rfl tv
  replace H := of_f H h37
  refine Wk (Qb (Qn ?_))
  refine Ws (Ws (Wg (Wr 2 tk sg0 rfl rfl tv ?_)))
  obtain ⟨x41, hx41, H⟩ := of_bind H
  refine Wf [] (need_counted_0 _ hx41) need_counted_f rfl rfl tv rfl rfl rfl (Wr 1 tk sg0 rfl rfl tv (Wx 3 3 true tk sg0 rfl rfl (fun _ => tv) (Wr 2 tk sg0 rfl rfl ⟨by first | exact id | exact fun h => by rw [h]; rfl | simp_all, tv⟩ (Wx 3 8 false tk sg0 rfl rfl (fun _ => tv) (Wr 2 tk sg0 rfl rfl ⟨by first | exact id | exact fun h => by rw [h]; rfl | simp_all, tv⟩ (Wx 4 13 false tk sg0 rfl rfl (fun _ => tv) (Wr 1 tk sg0 rfl rfl ⟨by first | exact id | exact fun h => by rw [h]; rfl | simp_all, tv⟩ (Wn (Qn (Wc rfl (fun h42 => ?_) (fun h42 => ?_)))))))))))
  ·replace H := of_t H h42
   refine Ws (Wg (Wr 1 tk sg0 rfl rfl tv (Wn (Qn (Wt (QT.r ?_))))))
   cases H
   exact Ea rfl rfl rfl tv
  replace H := of_f H h42
  refine Wk (Qn (Ws (Wg (Wr 1 tk sg0 rfl rfl tv (Wn (Qn (Wt ?_)))))))
  cases H
  exact Ea rfl rfl rfl tv
 replace H := of_f H h29
 refine Ws (Wg (Wr 2 tk sg0 rfl rfl tv (Wn (Qn (Wc rfl (fun h43 => ?_) (fun h43 => ?_))))))
 ·replace H := of_t H h43
  refine Wg (Wr 1 tk sg0 rfl rfl tv (Wn (Qb (Qn ?_))))
  refine Ws (Ws (Wg (Wr 4 tk sg0 rfl rfl tv ?_)))
  obtain ⟨x44, hx44, H⟩ := of_bind H
  refine Wf [] (decl_Fits_0 _ _ _ hx44) decl_Fits_f rfl rfl tv rfl rfl rfl (Wr 2 tk sg0 rfl rfl tv (Wx 3 6 false tk sg0 rfl rfl (fun _ => tv) ?_))
  obtain ⟨g45, H⟩ := of_needS H
  refine Wx 7 9 true tk sg0 rfl rfl (fun hb => ⟨⟨(nIn_ok (g45 hb)).1, (nIn_ok (g45 hb)).2, rfl⟩, tv⟩) (Wx 1 6 false tk sg0 rfl rfl (fun hb => ⟨by first | exact id | exact ⟨hb, fun h => by rw [hb, h]; rfl⟩ | exact ⟨hb, id⟩ | exact fun h => by rw [hb, h]; rfl | exact fun h => by rw [h]; rfl | simp_all, tv⟩) (Wr 1 tk sg0 rfl rfl ⟨by first | exact id | exact fun h => by rw [h]; rfl | simp_all, tv⟩ (Wn (Qn (Wc rfl (fun h46 => ?_) (fun h46 => ?_))))))
  ·replace H := of_t H h46
   refine Ws (Wg (Wr 1 tk sg0 rfl rfl tv (Wn (Qn (Wt (QT.r ?_))))))
   cases H
   exact Ea rfl rfl rfl tv
  replace H := of_f H h46
  refine Wk (Qn (Ws (Ws (Wg (Wr 2 tk sg0 rfl rfl tv (Wn (Qn (Wb (Ws (Wg (Wr 2 tk sg0 rfl rfl tv (Wn (Qn (Wc rfl (fun h47 => ?_) (fun h47 => ?_)))))))))))))))
  ·replace H := of_t H h47
   refine Wg ?_
   obtain ⟨g48, H⟩ := of_need H
   refine Wr 7 tk sg0 rfl rfl ⟨⟨(nIn_ok g48).1, (nIn_ok g48).2, rfl⟩, tv⟩ (Wn (Qb (Qn ?_)))
   refine Ws (Ws (Wg (Wr 2 tk sg0 rfl rfl tv ?_)))
   obtain ⟨x49, hx49, H⟩ := of_bind H
   refine Wf [] (need_counted_0 _ hx49) need_counted_f rfl rfl tv rfl rfl rfl (Wr 1 tk sg0 rfl rfl tv (Wx 3 3 true tk sg0 rfl rfl (fun _ => tv) (Wr 2 tk sg0 rfl rfl ⟨by first | exact id | exact fun h => by rw [h]; rfl | simp_all, tv⟩ (Wx 3 8 false tk sg0 rfl rfl (fun _ => tv) (Wr 2 tk sg0 rfl rfl ⟨by first | exact id | exact fun h => by rw [h]; rfl | simp_all, tv⟩ (Wx 4 13 false tk sg0 rfl rfl (fun _ => tv) (Wr 1 tk sg0 rfl rfl ⟨by first | exact id | exact fun h => by rw [h]; rfl | simp_all, tv⟩ (Wn (Qn (Wc rfl (fun h50 => ?_) (fun h50 => ?_)))))))))))
   ·replace H := of_t H h50
    refine Ws (Wg (Wr 1 tk sg0 rfl rfl tv (Wn (Qn (Wt (QT.r ?_))))))
    cases H
    exact Ea rfl rfl rfl tv
   replace H := of_f H h50
   refine Wk (Qn (Ws (Wg (Wr 1 tk sg0 rfl rfl tv (Wn (Qn (Wt ?_)))))))
   cases H
   exact Ea rfl rfl rfl tv
  replace H := of_f H h47
  refine Ws (Wg (Wr 2 tk sg0 rfl rfl tv (Wn (Qn (Wc rfl (fun h51 => ?_) (fun h51 => ?_))))))
  ·replace H := of_t H h51
   refine Wg ?_
   obtain ⟨g52, H⟩ := of_need H
   refine Wr 7 tk sg0 rfl rfl ⟨⟨(nIn_ok g52).1, (nIn_ok g52).2, rfl⟩, tv⟩ (Wn (Qb (Qn ?_)))
   refine Ws (Ws (Wg (Wr 2 tk sg0 rfl rfl tv ?_)))
   obtain ⟨x53, hx53, H⟩ := of_bind H
   refine Wf [] (need_counted_0 _ hx53) need_counted_f rfl rfl tv rfl rfl rfl (Wr 1 tk sg0 rfl rfl tv (Wx 3 3 true tk sg0 rfl rfl (fun _ => tv) (Wr 2 tk sg0 rfl rfl ⟨by first | exact id | exact fun h => by rw [h]; rfl | simp_all, tv⟩ (Wx 3 8 false tk sg0 rfl rfl (fun _ => tv) (Wr 2 tk sg0 rfl rfl ⟨by first | exact id | exact fun h => by rw [h]; rfl | simp_all, tv⟩ (Wx 4 13 false tk sg0 rfl rfl (fun _ => tv) (Wr 1 tk sg0 rfl rfl ⟨by first | exact id | exact fun h => by rw [h]; rfl | simp_all, tv⟩ (Wn (Qn (Wc rfl (fun h54 => ?_) (fun h54 => ?_)))))))))))
   ·replace H := of_t H h54
    refine Ws (Wg (Wr 1 tk sg0 rfl rfl tv (Wn (Qn (Wt (QT.r ?_))))))
    cases H
    exact Ea rfl rfl rfl tv
   replace H := of_f H h54
   refine Wk (Qn (Ws (Wg (Wr 1 tk sg0 rfl rfl tv (Wn (Qn (Wt ?_)))))))
   cases H
   exact Ea rfl rfl rfl tv
  replace H := of_f H h51
  refine Wk (Qb (Qn ?_))
  refine Ws (Ws (Wg (Wr 2 tk sg0 rfl rfl tv ?_)))
  obtain ⟨x55, hx55, H⟩ := of_bind H
  refine Wf [] (need_counted_0 _ hx55) need_counted_f rfl rfl tv rfl rfl rfl (Wr 1 tk sg0 rfl rfl tv (Wx 3 3 true tk sg0 rfl rfl (fun _ => tv) (Wr 2 tk sg0 rfl rfl ⟨by first | exact id | exact fun h => by rw [h]; rfl | simp_all, tv⟩ (Wx 3 8 false tk sg0 rfl rfl (fun _ => tv) (Wr 2 tk sg0 rfl rfl ⟨by first | exact id | exact fun h => by rw [h]; rfl | simp_all, tv⟩ (Wx 4 13 false tk sg0 rfl rfl (fun _ => tv) (Wr 1 tk sg0 rfl rfl ⟨by first | exact id | exact fun h => by rw [h]; rfl | simp_all, tv⟩ (Wn (Qn (Wc rfl (fun h56 => ?_) (fun h56 => ?_)))))))))))
  ·replace H := of_t H h56
   refine Ws (Wg (Wr 1 tk sg0 rfl rfl tv (Wn (Qn (Wt (QT.r ?_))))))
   cases H
   exact Ea rfl rfl rfl tv
  replace H := of_f H h56
  refine Wk (Qn (Ws (Wg (Wr 1 tk sg0 rfl rfl tv (Wn (Qn (Wt ?_)))))))
  cases H
  exact Ea rfl rfl rfl tv
 replace H := of_f H h43
 refine Ws (Wg (Wr 2 tk sg0 rfl rfl tv (Wn (Qn (Wc rfl (fun h57 => ?_) (fun h57 => ?_))))))
 ·replace H := of_t H h57
  refine Wg (Wr 1 tk sg0 rfl rfl tv (Wn (Qb (Qn ?_))))
  refine Ws (Ws (Wg (Wr 4 tk sg0 rfl rfl tv ?_)))
  obtain ⟨x58, hx58, H⟩ := of_bind H
  refine Wf [] (decl_Fits_0 _ _ _ hx58) decl_Fits_f rfl rfl tv rfl rfl rfl (Wr 2 tk sg0 rfl rfl tv (Wx 3 6 false tk sg0 rfl rfl (fun _ => tv) ?_))
  obtain ⟨g59, H⟩ := of_needS H
  refine Wx 7 9 true tk sg0 rfl rfl (fun hb => ⟨⟨(nIn_ok (g59 hb)).1, (nIn_ok (g59 hb)).2, rfl⟩, tv⟩) (Wx 1 6 false tk sg0 rfl rfl (fun hb => ⟨by first | exact id | exact ⟨hb, fun h => by rw [hb, h]; rfl⟩ | exact ⟨hb, id⟩ | exact fun h => by rw [hb, h]; rfl | exact fun h => by rw [h]; rfl | simp_all, tv⟩) (Wr 1 tk sg0 rfl rfl ⟨by first | exact id | exact fun h => by rw [h]; rfl | simp_all, tv⟩ (Wn (Qn (Wc rfl (fun h60 => ?_) (fun h60 => ?_))))))
  ·replace H := of_t H h60
   refine Ws (Wg (Wr 1 tk sg0 rfl rfl tv (Wn (Qn (Wt (QT.r ?_))))))
   cases H
   exact Ea rfl rfl rfl tv
  replace H := of_f H h60
  refine Wk (Qn (Ws (Ws (Wg (Wr 2 tk sg0 rfl rfl tv (Wn (Qn (Wb (Ws (Wg (Wr 2 tk sg0 rfl rfl tv (Wn (Qn (Wc rfl (fun h61 => ?_) (fun h61 => ?_)))))))))))))))
  ·replace H := of_t H h61
   refine Wg ?_
   obtain ⟨g62, H⟩ := of_need H
   refine Wr 7 tk sg0 rfl rfl ⟨⟨(nIn_ok g62).1, (nIn_ok g62).2, rfl⟩, tv⟩ (Wn (Qb (Qn ?_)))
   refine Ws (Ws (Wg (Wr 2 tk sg0 rfl rfl tv ?_)))
   obtain ⟨x63, hx63, H⟩ := of_bind H
   refine Wf [] (need_counted_0 _ hx63) need_counted_f rfl rfl tv rfl rfl rfl (Wr 1 tk sg0 rfl rfl tv (Wx 3 3 true tk sg0 rfl rfl (fun _ => tv) (Wr 2 tk sg0 rfl rfl ⟨by first | exact id | exact fun h => by rw [h]; rfl | simp_all, tv⟩ (Wx 3 8 false tk sg0 rfl rfl (fun _ => tv) (Wr 2 tk sg0 rfl rfl ⟨by first | exact id | exact fun h => by rw [h]; rfl | simp_all, tv⟩ (Wx 4 13 false tk sg0 rfl rfl (fun _ => tv) (Wr 1 tk sg0 rfl rfl ⟨by first | exact id | exact fun h => by rw [h]; rfl | simp_all, tv⟩ (Wn (Qn (Wc rfl (fun h64 => ?_) (fun h64 => ?_)))))))))))
   ·replace H := of_t H h64
    refine Ws (Wg (Wr 1 tk sg0 rfl rfl tv (Wn (Qn (Wt (QT.r ?_))))))
    cases H
    exact Ea rfl rfl rfl tv
   replace H := of_f H h64
   refine Wk (Qn (Ws (Wg (Wr 1 tk sg0 rfl rfl tv (Wn (Qn (Wt ?_)))))))
   cases H
   exact Ea rfl rfl rfl tv
  replace H := of_f H h61
  refine Ws (Wg (Wr 2 tk sg0 rfl rfl tv (Wn (Qn (Wc rfl (fun h65 => ?_) (fun h65 => ?_))))))
  ·replace H := of_t H h65
   refine Wg ?_
   obtain ⟨g66, H⟩ := of_need H
   refine Wr 7 tk sg0 rfl rfl ⟨⟨(nIn_ok g66).1, (nIn_ok g66).2, rfl⟩, tv⟩ (Wn (Qb (Qn ?_)))
   refine Ws (Ws (Wg (Wr 2 tk sg0 rfl rfl tv ?_)))
   obtain ⟨x67, hx67, H⟩ := of_bind H
   refine Wf [] (need_counted_0 _ hx67) need_counted_f rfl rfl tv rfl rfl rfl (Wr 1 tk sg0 rfl rfl tv (Wx 3 3 true tk sg0 rfl rfl (fun _ => tv) (Wr 2 tk sg0 rfl rfl ⟨by first | exact id | exact fun h => by rw [h]; rfl | simp_all, tv⟩ (Wx 3 8 false tk sg0 rfl rfl (fun _ => tv) (Wr 2 tk sg0 rfl rfl ⟨by first | exact id | exact fun h => by rw [h]; rfl | simp_all, tv⟩ (Wx 4 13 false tk sg0 rfl rfl (fun _ => tv) (Wr 1 tk sg0 rfl rfl ⟨by first | exact id | exact fun h => by rw [h]; rfl | simp_all, tv⟩ (Wn (Qn (Wc rfl (fun h68 => ?_) (fun h68 => ?_)))))))))))
   ·replace H := of_t H h68
    refine Ws (Wg (Wr 1 tk sg0 rfl rfl tv (Wn (Qn (Wt (QT.r ?_))))))
    cases H
    exact Ea rfl rfl rfl tv
   replace H := of_f H h68
   refine Wk (Qn (Ws (Wg (Wr 1 tk sg0 rfl rfl tv (Wn (Qn (Wt ?_)))))))
   cases H
   exact Ea rfl rfl rfl tv
  replace H := of_f H h65
  refine Wk (Qb (Qn ?_))
  refine Ws (Ws (Wg (Wr 2 tk sg0 rfl rfl tv ?_)))
  obtain ⟨x69, hx69, H⟩ := of_bind H
  refine Wf [] (need_counted_0 _ hx69) need_counted_f rfl rfl tv rfl rfl rfl (Wr 1 tk sg0 rfl rfl tv (Wx 3 3 true tk sg0 rfl rfl (fun _ => tv) (Wr 2 tk sg0 rfl rfl ⟨by first | exact id | exact fun h => by rw [h]; rfl | simp_all, tv⟩ (Wx 3 8 false tk sg0 rfl rfl (fun _ => tv) (Wr 2 tk sg0 rfl rfl ⟨by first | exact id | exact fun h => by rw [h]; rfl | simp_all, tv⟩ (Wx 4 13 false tk sg0 rfl rfl (fun _ => tv) (Wr 1 tk sg0 rfl rfl ⟨by first | exact id | exact fun h => by rw [h]; rfl | simp_all, tv⟩ (Wn (Qn (Wc rfl (fun h70 => ?_) (fun h70 => ?_)))))))))))
  ·replace H := of_t H h70
   refine Ws (Wg (Wr 1 tk sg0 rfl rfl tv (Wn (Qn (Wt (QT.r ?_))))))
   cases H
   exact Ea rfl rfl rfl tv
  replace H := of_f H h70
  refine Wk (Qn (Ws (Wg (Wr 1 tk sg0 rfl rfl tv (Wn (Qn (Wt ?_)))))))
  cases H
  exact Ea rfl rfl rfl tv
 replace H := of_f H h57
 refine Ws (Wg (Wr 1 tk sg0 rfl rfl tv (Wn (Qn (Wt (QB.r (QT.r ?_)))))))
 cases H
 exact Ea rfl rfl rfl tv
theorem need_one_f : hasFunc Tryd.prog 64 Tryd.f64 := ⟨Tryd.func64, rfl, by kernel_rfl⟩

theorem bits_one_0 (a0 : Int) {r : Int} (H : bits_one a0 = some r) : LJ.Spec Tryd.prog 32 [.d (.int .i64 a0)] [] (.d (.int .u64 r)) [] := by
 refine LJ.Spec.code Tryd.func32 rfl 11 rfl rfl [] rfl fun w0 F0 S0 B0 => ?_
 unfold bits_one at H
 refine Ws (Wg (Wr 1 tk sg0 rfl rfl tv (Wn (Qn (Ws (Ws (Wg (Wr 3 tk sg0 rfl rfl tv (Wx 2 2 false tk sg0 rfl rfl (fun _ => tv) (Wr 1 tk sg0 rfl rfl ⟨by first | exact id | exact fun h => by rw [h]; rfl | simp_all, tv⟩ (Wn (Qn (Wc rfl (fun h1 => ?_) (fun h1 => ?_))))))))))))))
 ·replace H := of_t H h1
  refine Ws (Wg (Wr 1 tk sg0 rfl rfl tv (Wn (Qn (Wt (QT.r ?_))))))
  cases H
  exact Ea rfl rfl rfl tv
 replace H := of_f H h1
 refine Wk (Qn (Ws (Wg ?_)))
 obtain ⟨g2, H⟩ := of_need H
 refine Wr 3 tk sg0 rfl rfl ⟨(nNn_ok g2), tv⟩ (Wn (Qn (Wt ?_)))
 cases H
 exact Ea rfl rfl rfl tv
theorem bits_one_f : hasFunc Tryd.prog 32 Tryd.f32 := ⟨Tryd.func32, rfl, by kernel_rfl⟩

theorem bits_Set_With_0 (a0 : Int) (a1 : Int) {r : Int} (H : bits_Set_With a0 a1 = some r) : LJ.Spec Tryd.prog 20 [.d (.int .u64 a0), .d (.int .i64 a1)] [] (.d (.int .u64 r)) [] := by
 refine LJ.Spec.code Tryd.func20 rfl 9 rfl rfl [] rfl fun w0 F0 S0 B0 => ?_
 unfold bits_Set_With at H
 refine Ws (Wg (Wr 1 tk sg0 rfl rfl tv (Wn (Qn (Ws (Wg (Wr 2 tk sg0 rfl rfl tv ?_)))))))
 obtain ⟨x1, hx1, H⟩ := of_bind H
 refine Wf [] (bits_one_0 _ hx1) bits_one_f rfl rfl tv rfl rfl rfl (Wr 2 tk sg0 rfl rfl tv (Wn (Qn (Wt ?_))))
 cases H
 exact Ea rfl rfl rfl tv
theorem bits_Set_With_f : hasFunc Tryd.prog 20 Tryd.f20 := ⟨Tryd.func20, rfl, by kernel_rfl⟩

theorem bits_OnesCount64_0 (a0 : Int) {r : Int} (H : bits_OnesCount64 a0 = some r) : LJ.Spec Tryd.prog 50 [.d (.int .u64 a0)] [] (.d (.int .i64 r)) [] := by
 refine LJ.Spec.code Tryd.func50 rfl 35 rfl rfl [] rfl fun w0 F0 S0 B0 => ?_
 unfold bits_OnesCount64 at H
 refine Ws (Wg (Wr 1 tk sg0 rfl rfl tv (Wn (Qn (Ws (Wg (Wr 7 tk sg0 rfl rfl tv (Wn (Qn (Ws (Wg (Wr 7 tk sg0 rfl rfl tv (Wn (Qn (Ws (Wg (Wr 6 tk sg0 rfl rfl tv (Wn (Qn (Ws (Wg (Wr 5 tk sg0 rfl rfl tv (Wn (Qn (Ws (Wg (Wr 5 tk sg0 rfl rfl tv (Wn (Qn (Ws (Wg (Wr 5 tk sg0 rfl rfl tv (Wn (Qn (Ws (Wg (Wr 4 tk sg0 rfl rfl tv (Wn (Qn (Wt ?_))))))))))))))))))))))))))))))))))))))))
 cases H
 exact Ea rfl rfl rfl tv
theorem bits_OnesCount64_f : hasFunc Tryd.prog 50 Tryd.f50 := ⟨Tryd.func50, rfl, by kernel_rfl⟩

theorem bits_Set_Count_0 (a0 : Int) {r : Int} (H : bits_Set_Count a0 = some r) : LJ.Spec Tryd.prog 33 [.d (.int .u64 a0)] [] (.d (.int .i64 r)) [] := by
 refine LJ.Spec.code Tryd.func33 rfl 5 rfl rfl [] rfl fun w0 F0 S0 B0 => ?_
 unfold bits_Set_Count at H
 refine Ws (Wg (Wr 1 tk sg0 rfl rfl tv (Wn (Qn (Ws (Wg (Wr 1 tk sg0 rfl rfl tv ?_)))))))
 obtain ⟨x1, hx1, H⟩ := of_bind H
 refine Wf [] (bits_OnesCount64_0 _ hx1) bits_OnesCount64_f rfl rfl tv rfl rfl rfl (Wr 1 tk sg0 rfl rfl tv (Wn (Qn (Wt ?_))))
 cases H
 exact Ea rfl rfl rfl tv
theorem bits_Set_Count_f : hasFunc Tryd.prog 33 Tryd.f33 := ⟨Tryd.func33, rfl, by kernel_rfl⟩

theorem need_way_0 (a0 : List T_api_Decl) (a1 : List T_api_Need) {r : Int} (H : need_way a0 a1 = some r) : LJ.Spec Tryd.prog 48 [.d (slT enc_api_Decl a0), .d (slT enc_api_Need a1)] [] (.d (.int .i64 r)) [] := by
 refine LJ.Spec.code Tryd.func48 rfl 52 rfl rfl [] rfl fun w0 F0 S0 B0 => ?_
 unfold need_way at H
 refine Ws (Wg (Wr 1 tk sg0 rfl rfl tv (Wn (Qn (Ws (Ws (Wg (Wr 3 tk sg0 rfl rfl tv (Wn (Qn (Wc rfl (fun h1 => ?_) (fun h1 => ?_))))))))))))
 ·replace H := of_t H h1
  refine Ws (Wg (Wr 1 tk sg0 rfl rfl tv (Wn (Qn (Wt (QT.r ?_))))))
  cases H
  exact Ea rfl rfl rfl tv
 replace H := of_f H h1
 refine Wk (Qn (Ws (Ws (Wg (Wr 3 tk sg0 rfl rfl tv (Wn (Qn (Wc rfl (fun h2 => ?_) (fun h2 => ?_)))))))))
 ·replace H := of_t H h2
  refine Ws (Wg (Wr 1 tk sg0 rfl rfl tv (Wn (Qn (Wt (QT.r ?_))))))
  cases H
  exact Ea rfl rfl rfl tv
 replace H := of_f H h2
 refine Wk (Qn (Ws (Wg (Wr 2 tk sg0 rfl rfl tv (Wn (Qn (Ws (Ws (Wg (Wr 3 tk sg0 rfl rfl tv (Wn (Qn (Wb (Wl (ι := {x : Nat × (Int × Bool × Int) // need_way_l4 a0 a1 x.1 x.2 = some r}) (fun x => [(0, .d (slT enc_api_Decl a0)), (1, .d (slT enc_api_Need a1)), (5, .d (.int .u64 x.1.2.1)), (6, .d (.bool x.1.2.2.1)), (16, .d (slT enc_api_Need a1)), (17, .d (.int .i64 (a1.length : Int))), (18, .d (.int .i64 x.1.2.2.2))]) (fun x => []) (fun x => x.1.1) ⟨(fuel, (0, false, 0)), H⟩ (Less.mk' ⟨rfl, rfl, rfl, rfl, rfl, rfl, rfl, tv⟩ tv) fun x => ?_))))))))))))))
 obtain ⟨⟨k4, s3⟩, H⟩ := x
 rcases k4 with _ | k4
 ·exact of_none H
 rw [need_way_l4] at H
 refine Ws (Wg (Wr 1 tk sg0 rfl rfl tv (Wn (Qn (Ws (Wc rfl (fun h5 => ?_) (fun h5 => ?_)))))))
 ·replace H := of_t H h5
  refine Wk (Qn (Ws (Wb (Ws (Wg ?_)))))
  obtain ⟨g6, H⟩ := of_need H
  refine Wr 2 tk sg0 rfl rfl ⟨⟨(nIn_ok g6).1, (nIn_ok g6).2, rfl⟩, tv⟩ (Wa 108 tk rfl rfl rfl (We 0 tk ek eg0 rfl rfl rfl tv (Wn (Qn (Ws (Ws (Wg (Wr 2 tk sg0 rfl rfl tv ?_))))))))
  obtain ⟨x7, hx7, H⟩ := of_bind H
  refine Wf [] (need_one_0 _ _ hx7) need_one_f rfl rfl tv rfl rfl rfl (Wr 1 tk sg0 rfl rfl tv (Wn (Qn (Ws (Wg (Wr 2 tk sg0 rfl rfl tv (Wn (Qn (Wc rfl (fun h8 => ?_) (fun h8 => ?_))))))))))
  ·replace H := of_t H h8
   refine Ws (Wg (Wr 2 tk sg0 rfl rfl tv (Wn (Qn (Wt (QT.r (QB.r (QT.r (QT.r (QB.r (QT.r ?_)))))))))))
   cases H
   exact Ea rfl rfl rfl tv
  replace H := of_f H h8
  refine Wk (Qn (Ws (Wg (Wr 3 tk sg0 rfl rfl tv ?_))))
  obtain ⟨x9, hx9, H⟩ := of_bind H
  refine Wf [] (bits_Set_With_0 _ _ hx9) bits_Set_With_f rfl rfl tv rfl rfl rfl (Wr 1 tk sg0 rfl rfl tv (Wn (Qn (Wg (Wr 2 tk sg0 rfl rfl tv (Wx 3 1 false tk sg0 rfl rfl (fun _ => tv) (Wr 2 tk sg0 rfl rfl ⟨by first | exact id | exact fun h => by rw [h]; rfl | simp_all, tv⟩ (Wn (Qb (Qn ?_))))))))))
  exact Wg (Wr 2 tk sg0 rfl rfl tv (Wn (Qn (⟨⟨(k4, (x9, (s3.2.1 || (iEq ((a1.getD s3.2.2.toNat default).Kind) 4)), IntKind.i64.wrap (s3.2.2 + 1))), H⟩, Nat.lt_succ_self _, Less.mk' ⟨rfl, rfl, rfl, rfl, rfl, rfl, rfl, tv⟩ tv⟩))))
 replace H := of_f H h5
 refine WC.exit (Qx (Qx (Qh (Qn ?_))))
 refine Ws (Ws (Wg (Wr 1 tk sg0 rfl rfl tv ?_)))
 obtain ⟨x10, hx10, H⟩ := of_bind H
 refine Wf [] (bits_Set_Count_0 _ hx10) bits_Set_Count_f rfl rfl tv rfl rfl rfl (Wr 4 tk sg0 rfl rfl tv (Wx 2 5 false tk sg0 rfl rfl (fun _ => tv) (Wx 3 7 true tk sg0 rfl rfl (fun _ => tv) (Wx 1 5 false tk sg0 rfl rfl (fun hb => ⟨by first | exact id | exact ⟨hb, fun h => by rw [hb, h]; rfl⟩ | exact ⟨hb, id⟩ | exact fun h => by rw [hb, h]; rfl | exact fun h => by rw [h]; rfl | simp_all, tv⟩) (Wr 1 tk sg0 rfl rfl ⟨by first | exact id | exact fun h => by rw [h]; rfl | simp_all, tv⟩ (Wn (Qn (Wc rfl (fun h11 => ?_) (fun h11 => ?_)))))))))
 ·replace H := of_t H h11
  refine Ws (Wg (Wr 1 tk sg0 rfl rfl tv (Wn (Qn (Wt (QT.r ?_))))))
  cases H
  exact Ea rfl rfl rfl tv
 replace H := of_f H h11
 refine Wk (Qn (Ws (Wg (Wr 1 tk sg0 rfl rfl tv (Wn (Qn (Wt ?_)))))))
 cases H
 exact Ea rfl rfl rfl tv
theorem need_way_f : hasFunc Tryd.prog 48 Tryd.f48 := ⟨Tryd.func48, rfl, by kernel_rfl⟩

theorem need_Check_0 (a0 : List T_api_Decl) (a1 : List (List T_api_Need)) {r : Int} (H : need_Check a0 a1 = some r) : LJ.Spec Tryd.prog 30 [.d (slT enc_api_Decl a0), .d (slT enc_sl_api_Need a1)] [] (.d (.int .i64 r)) [] := by
 refine LJ.Spec.code Tryd.func30 rfl 27 rfl rfl [] rfl fun w0 F0 S0 B0 => ?_
 unfold need_Check at H
 refine Ws (Wg (Wr 1 tk sg0 rfl rfl tv (Wn (Qn (Ws (Ws (Wg (Wr 3 tk sg0 rfl rfl tv (Wn (Qn (Wc rfl (fun h1 => ?_) (fun h1 => ?_))))))))))))
 ·replace H := of_t H h1
  refine Ws (Wg (Wr 1 tk sg0 rfl rfl tv (Wn (Qn (Wt (QT.r ?_))))))
  cases H
  exact Ea rfl rfl rfl tv
 replace H := of_f H h1
 refine Wk (Qn (Ws (Ws (Wg (Wr 3 tk sg0 rfl rfl tv (Wn (Qn (Wc rfl (fun h2 => ?_) (fun h2 => ?_)))))))))
 ·replace H := of_t H h2
  refine Ws (Wg (Wr 1 tk sg0 rfl rfl tv (Wn (Qn (Wt (QT.r ?_))))))
  cases H
  exact Ea rfl rfl rfl tv
 replace H := of_f H h2
 refine Wk (Qn (Ws (Ws (Wg (Wr 3 tk sg0 rfl rfl tv (Wn (Qn (Wb (Wl (ι := {x : Nat × Int // need_Check_l4 a0 a1 x.1 x.2 = some r}) (fun x => [(0, .d (slT enc_api_Decl a0)), (14, .d (slT enc_sl_api_Need a1)), (15, .d (.int .i64 (a1.length : Int))), (16, .d (.int .i64 x.1.2))]) (fun x => []) (fun x => x.1.1) ⟨(fuel, 0), H⟩ (Less.mk' ⟨rfl, rfl, rfl, rfl, tv⟩ tv) fun x => ?_)))))))))
 obtain ⟨⟨k4, s3⟩, H⟩ := x
 rcases k4 with _ | k4
 ·exact of_none H
 rw [need_Check_l4] at H
 refine Ws (Wg (Wr 1 tk sg0 rfl rfl tv (Wn (Qn (Ws (Wc rfl (fun h5 => ?_) (fun h5 => ?_)))))))
 ·replace H := of_t H h5
  refine Wk (Qn (Ws (Wb (Ws (Wg ?_)))))
  obtain ⟨g6, H⟩ := of_need H
  refine Wr 3 tk sg0 rfl rfl ⟨⟨(nIn_ok g6).1, (nIn_ok g6).2, rfl⟩, tv⟩ (Wn (Qn (Ws (Wg (Wr 2 tk sg0 rfl rfl tv ?_)))))
  obtain ⟨x7, hx7, H⟩ := of_bind H
  refine Wf [] (need_way_0 _ _ hx7) need_way_f rfl rfl tv rfl rfl rfl (Wr 1 tk sg0 rfl rfl tv (Wn (Qn (Ws (Wg (Wr 2 tk sg0 rfl rfl tv (Wn (Qn (Wc rfl (fun h8 => ?_) (fun h8 => ?_))))))))))
  ·replace H := of_t H h8
   refine Ws (Wg (Wr 2 tk sg0 rfl rfl tv (Wn (Qn (Wt (QB.r (QT.r (QT.r (QB.r (QT.r ?_))))))))))
   cases H
   exact Ea rfl rfl rfl tv
  replace H := of_f H h8
  refine Wk (Qb (Qn ?_))
  exact Wg (Wr 2 tk sg0 rfl rfl tv (Wn (Qn (⟨⟨(k4, IntKind.i64.wrap (s3 + 1)), H⟩, Nat.lt_succ_self _, Less.mk' ⟨rfl, rfl, rfl, rfl, tv⟩ tv⟩))))
 replace H := of_f H h5
 refine WC.exit (Qx (Qx (Qh (Qn ?_))))
 refine Ws (Wg (Wr 1 tk sg0 rfl rfl tv (Wn (Qn (Wt ?_)))))
 cases H
 exact Ea rfl rfl rfl tv
theorem need_Check_f : hasFunc Tryd.prog 30 Tryd.f30 := ⟨Tryd.func30, rfl, by kernel_rfl⟩

theorem op_known_0 (a0 : Int) {r : Bool} (H : op_known a0 = some r) : LJ.Spec Tryd.prog 52 [.d (.int .i64 a0)] [] (.d (.bool r)) [] := by
 refine LJ.Spec.code Tryd.func52 rfl 9 rfl rfl [] rfl fun w0 F0 S0 B0 => ?_
 unfold op_known at H
 refine Ws (Wg (Wr 1 tk sg0 rfl rfl tv (Wn (Qn (Ws (Wg (Wr 3 tk sg0 rfl rfl tv (Wx 2 2 true tk sg0 rfl rfl (fun _ => tv) (Wr 2 tk sg0 rfl rfl ⟨by first | exact id | exact fun h => by rw [h]; rfl | simp_all, tv⟩ (Wn (Qn (Wt ?_))))))))))))
 cases H
 exact Ea rfl rfl rfl tv
theorem op_known_f : hasFunc Tryd.prog 52 Tryd.f52 := ⟨Tryd.func52, rfl, by kernel_rfl⟩




theorem strings_Fields_0 (a0 : ByteArray) {r : List ByteArray} (H : strings_Fields a0 = some r) : LJ.Spec Tryd.prog 53 [.d (.str a0)] [] (.d (slT enc_str r)) [] := by
 refine LJ.Spec.code Tryd.func53 rfl 106 rfl rfl [] rfl fun w0 F0 S0 B0 => ?_
 unfold strings_Fields at H
 refine Ws (Wg (Wr 1 tk sg0 rfl rfl tv (Wn (Qn (Ws (Wg (Wr 1 tk sg0 rfl rfl tv (Wn (Qn (Ws (Wg (Wr 1 tk sg0 rfl rfl tv (Wn (Qn (Ws (Wg (Wr 1 tk sg0 rfl rfl tv (Wn (Qn (Ws (Ws (Wg (Wr 1 tk sg0 rfl rfl tv (Wn (Qn (Wb (Wl (ι := {x : Nat × (Int × Int × Int × Int) // strings_Fields_l2 a0 x.1 x.2 = some r}) (fun x => [(0, .d (.str a0)), (3, .d (.int .i64 x.1.2.1)), (4, .d (.int .i64 x.1.2.2.1)), (5, .d (.int .u8 x.1.2.2.2.1)), (6, .d (.int .i64 x.1.2.2.2.2))]) (fun x => []) (fun x => x.1.1) ⟨(fuel, (0, 1, 0, 0)), H⟩ (Less.mk' ⟨rfl, rfl, rfl, rfl, rfl, tv⟩ tv) fun x => ?_)))))))))))))))))))))))))))
 obtain ⟨⟨k2, s1⟩, H⟩ := x
 rcases k2 with _ | k2
 ·exact of_none H
 rw [strings_Fields_l2] at H
 refine Ws (Ws (Wg (Wr 4 tk sg0 rfl rfl tv (Wn (Qn (Wc rfl (fun h3 => ?_) (fun h3 => ?_)))))))
 ·replace H := of_t H h3
  refine Wk (Qn (Ws (Wb (Ws (Wg ?_)))))
  obtain ⟨g4, H⟩ := of_need H
  refine Wr 4 tk sg0 rfl rfl ⟨(nIn_ok g4), tv⟩ (Wn (Qn (Ws (Wg (Wr 4 tk sg0 rfl rfl tv (Wn (Qn (Ws (Wg (Wr 1 tk sg0 rfl rfl tv ?_))))))))))
  obtain ⟨g5, H⟩ := of_need H
  refine WL.yv (LJ.Y.idxElpA 256 (fun k => .int .u8 (G_strings_asciiSpace.getD k default)) (byteAt a0 s1.2.2.2.toNat) (by kernel_rfl) rfl rfl rfl gl_1_take (nIn_ok g5)) rfl rfl rfl (Wr 3 tk sg0 rfl rfl tv (Wn (Qn (Ws (Wg (Wr 7 tk sg0 rfl rfl tv (Wn (Qn (Wg (Wr 2 tk sg0 rfl rfl tv (Wn (Qb (Qn ?_)))))))))))))
  exact Wg (Wr 3 tk sg0 rfl rfl tv (Wn (Qn (⟨⟨(k2, (IntKind.i64.wrap (s1.1 + (Go.bits .and .i64 s1.2.1 (Go.bits .xor .i64 (cond IntKind.i64.signed (-1) IntKind.i64.max) (IntKind.i64.wrap (G_strings_asciiSpace.getD (byteAt a0 s1.2.2.2.toNat).toNat default))))), IntKind.i64.wrap (G_strings_asciiSpace.getD (byteAt a0 s1.2.2.2.toNat).toNat default), Go.bits .or .u8 s1.2.2.1 (byteAt a0 s1.2.2.2.toNat), IntKind.i64.wrap (s1.2.2.2 + 1))), H⟩, Nat.lt_succ_self _, Less.mk' ⟨rfl, rfl, rfl, rfl, rfl, tv⟩ tv⟩))))
 replace H := of_f H h3
 refine WC.exit (Qx (Qx (Qh (Qn ?_))))
 refine Ws (Ws (Wg (Wr 2 tk sg0 rfl rfl tv (Wn (Qn (Wc rfl (fun h6 => ?_) (fun h6 => ?_)))))))
 ·replace H := of_t H h6
  exact of_none H
 replace H := of_f H h6
 refine Wk (Qn (Ws (Wg (Wr 1 tk sg0 rfl rfl tv ?_))))
 obtain ⟨g7, H⟩ := of_need H
 refine WL.makeT (r := 141) enc_str (ByteArray.empty : ByteArray) s1.1 tk ek rfl rfl rfl rfl rfl rfl rfl (nMk_ok g7) rfl rfl rfl rfl (Wr 1 tk sg0 rfl rfl tv (Wn (Qn (Ws (Wg (Wr 1 tk sg0 rfl rfl tv (Wn (Qn (Ws (Wg (Wr 1 tk sg0 rfl rfl tv (Wn (Qn (Ws (Wg (Wr 1 tk sg0 rfl rfl tv (Wn (Qn ?_))))))))))))))))))
 obtain ⟨K8, hK8, H⟩ := of_withK H
 refine WC.cut (fun E m => ∃ s9 : Int, K8 s9 = some r ∧ LessW E m [(0, .d (.str a0)), (9, .own 141), (10, .d (.int .i64 0)), (12, .d (.int .i64 s9))] [(141, .row 9 1 ((List.replicate s1.1.toNat (ByteArray.empty : ByteArray)).map enc_str))]) ?_ ?_
 ·refine Wb (Wl (ι := {x : Nat × Int // strings_Fields_l11 a0 K8 x.1 x.2 = some r}) (fun x => [(0, .d (.str a0)), (9, .own 141), (10, .d (.int .i64 0)), (12, .d (.int .i64 x.1.2))]) (fun x => [(141, .row 9 1 ((List.replicate s1.1.toNat (ByteArray.empty : ByteArray)).map enc_str))]) (fun x => x.1.1) ⟨(fuel, 0), H⟩ (Less.mk' ⟨rfl, rfl, rfl, rfl, tv⟩ ⟨rfl, tv⟩) fun x => ?_)
  obtain ⟨⟨k11, s10⟩, H⟩ := x
  rcases k11 with _ | k11
  ·exact of_none H
  rw [strings_Fields_l11] at H
  refine Ws (Ws (Wg (Wr 5 tk sg0 rfl rfl tv (WL.split (g := 46) rfl (fun h12 => ?_) (fun h12 => ?_)))))
  ·replace H := of_t H h12
   obtain ⟨g13, H⟩ := of_need H
   refine WL.grun 3 4 true 46 tk sg0 rfl rfl rfl rfl ⟨(nIn_ok g13), tv⟩ ?_
   obtain ⟨g14, H⟩ := of_need H
   refine WL.gyv (LJ.Y.idxElpA 256 (fun k => .int .u8 (G_strings_asciiSpace.getD k default)) (byteAt a0 s10.toNat) (by kernel_rfl) rfl rfl rfl gl_1_take (nIn_ok g14)) rfl rfl rfl rfl rfl rfl (WL.grun 2 4 true 46 tk sg0 rfl rfl rfl rfl tv (WL.pickT rfl rfl rfl rfl rfl rfl (Wn (Qn (Wc rfl (fun h15 => ?_) (fun h15 => ?_))))))
   ·replace H := of_t H h15
    refine Wk (Qn (Wb (Wg (Wr 3 tk sg0 rfl rfl tv (Wn (Qb (Qn ?_)))))))
    exact ⟨⟨(k11, IntKind.i64.wrap (s10 + 1)), H⟩, Nat.lt_succ_self _, Less.mk' ⟨rfl, rfl, rfl, rfl, tv⟩ ⟨rfl, tv⟩⟩
   replace H := of_f H h15
   refine WC.exit (Qx (Qx (Qh (Qn ?_))))
   exact ⟨s10, H, LessW.mk' ⟨Ao rfl, Ao rfl, Ao rfl, Ao rfl, tv⟩ ⟨rfl, tv⟩⟩
  ·replace H := of_f H h12
   refine WL.gskips 6 4 true 46 rfl rfl rfl rfl (WL.pickF rfl rfl rfl rfl rfl rfl (Wn (Qn (Wc rfl (fun h => absurd h (by decide)) (fun h => ?_)))))
   refine WC.exit (Qx (Qx (Qh (Qn ?_))))
   exact ⟨s10, H, LessW.mk' ⟨Ao rfl, Ao rfl, Ao rfl, Ao rfl, tv⟩ ⟨rfl, tv⟩⟩
 ·rintro E m ⟨s9, H, hl⟩
  refine WC.lessW hl ?_
  replace H := (hK8 _).symm.trans H
  try dsimp only at H
  refine Ws (Wg (Wr 2 tk sg0 rfl rfl tv (Wn (Qn ?_))))
  obtain ⟨K16, hK16, H⟩ := of_withK H
  refine WC.cut (fun E m => ∃ s17 : Int × Int × (List ByteArray), K16 s17 = some r ∧ LessW E m [(0, .d (.str a0)), (9, .own 141), (10, .d (.int .i64 s17.1)), (11, .d (.int .i64 s17.2.1))] [(141, .row 9 1 (s17.2.2.map enc_str))]) ?_ ?_
  ·refine Wb (Wl (ι := {x : Nat × (Int × Int × Int × (List ByteArray)) // strings_Fields_l19 a0 K16 x.1 x.2 = some r}) (fun x => [(0, .d (.str a0)), (9, .own 141), (10, .d (.int .i64 x.1.2.1)), (11, .d (.int .i64 x.1.2.2.1)), (12, .d (.int .i64 x.1.2.2.2.1))]) (fun x => [(141, .row 9 1 (x.1.2.2.2.2.map enc_str))]) (fun x => x.1.1) ⟨(fuel, (0, s9, s9, List.replicate s1.1.toNat (ByteArray.empty : ByteArray))), H⟩ (Less.mk' ⟨rfl, rfl, rfl, rfl, rfl, tv⟩ ⟨rfl, tv⟩) fun x => ?_)
   obtain ⟨⟨k19, s18⟩, H⟩ := x
   rcases k19 with _ | k19
   ·exact of_none H
   rw [strings_Fields_l19] at H
   refine Ws (Ws (Wg (Wr 4 tk sg0 rfl rfl tv (Wn (Qn (Wc rfl (fun h20 => ?_) (fun h20 => ?_)))))))
   ·replace H := of_t H h20
    refine Wk (Qn (Wb (Ws (Ws (Wg ?_)))))
    obtain ⟨g21, H⟩ := of_need H
    refine Wr 3 tk sg0 rfl rfl ⟨(nIn_ok g21), tv⟩ ?_
    obtain ⟨g22, H⟩ := of_need H
    refine WL.yv (LJ.Y.idxElpA 256 (fun k => .int .u8 (G_strings_asciiSpace.getD k default)) (byteAt a0 s18.2.2.1.toNat) (by kernel_rfl) rfl rfl rfl gl_1_take (nIn_ok g22)) rfl rfl rfl (Wr 2 tk sg0 rfl rfl tv (Wn (Qn (Wc rfl (fun h23 => ?_) (fun h23 => ?_)))))
    ·replace H := of_t H h23
     refine Ws (Wg (Wr 3 tk sg0 rfl rfl tv (Wn (Qn (WC.exit (Qx (Qh (Qn ?_))))))))
     exact ⟨⟨(k19, (s18.1, s18.2.1, IntKind.i64.wrap (s18.2.2.1 + 1), s18.2.2.2)), H⟩, Nat.lt_succ_self _, Less.mk' ⟨rfl, rfl, rfl, rfl, rfl, tv⟩ ⟨rfl, tv⟩⟩
    replace H := of_f H h23
    refine Wk (Qn (Ws (Wg ?_)))
    obtain ⟨g24, H⟩ := of_need H
    refine Wr 6 tk sg0 rfl rfl ⟨(nSl_ok g24), tv⟩ ?_
    obtain ⟨g25, H⟩ := of_need H
    refine WL.yv (LJ.Y.idxRel enc_str s18.2.2.2 s18.1 tk rfl rfl rfl rfl rfl (nIn_ok g25)) rfl rfl rfl (WL.storeRel enc_str s18.2.2.2 s18.1 0 (a0.extract s18.2.1.toNat s18.2.2.1.toNat) (.str (a0.extract s18.2.1.toNat s18.2.2.1.toNat)) rfl rfl rfl rfl (fun _ => rfl) rfl (by kernel_rfl) rfl rfl (by first | exact nIn_ok g25 | (have := nIn_ok g25; simpa only [List.length_set, List.length_map] using this)) rfl rfl rfl rfl ?_)
    refine Wn (Qn (Ws (Wg (Wr 3 tk sg0 rfl rfl tv (Wn (Qn (Ws (Wg (Wr 3 tk sg0 rfl rfl tv (Wn (Qn ?_)))))))))))
    obtain ⟨K26, hK26, H⟩ := of_withK H
    refine WC.cut (fun E m => ∃ s27 : Int, K26 s27 = some r ∧ LessW E m [(0, .d (.str a0)), (9, .own 141), (10, .d (.int .i64 (IntKind.i64.wrap (s18.1 + 1)))), (12, .d (.int .i64 s27))] [(141, .row 9 1 ((s18.2.2.2.set s18.1.toNat (a0.extract s18.2.1.toNat s18.2.2.1.toNat)).map enc_str))]) ?_ ?_
    ·refine Wb (Wl (ι := {x : Nat × Int // strings_Fields_l29 a0 K26 x.1 x.2 = some r}) (fun x => [(0, .d (.str a0)), (9, .own 141), (10, .d (.int .i64 (IntKind.i64.wrap (s18.1 + 1)))), (12, .d (.int .i64 x.1.2))]) (fun x => [(141, .row 9 1 ((s18.2.2.2.set s18.1.toNat (a0.extract s18.2.1.toNat s18.2.2.1.toNat)).map enc_str))]) (fun x => x.1.1) ⟨(fuel, IntKind.i64.wrap (s18.2.2.1 + 1)), H⟩ (Less.mk' ⟨rfl, rfl, rfl, rfl, tv⟩ ⟨rfl, tv⟩) fun x => ?_)
     obtain ⟨⟨k29, s28⟩, H⟩ := x
     rcases k29 with _ | k29
     ·exact of_none H
     rw [strings_Fields_l29] at H
     refine Ws (Ws (Wg (Wr 5 tk sg0 rfl rfl tv (WL.split (g := 84) rfl (fun h30 => ?_) (fun h30 => ?_)))))
     ·replace H := of_t H h30
      obtain ⟨g31, H⟩ := of_need H
      refine WL.grun 3 4 true 84 tk sg0 rfl rfl rfl rfl ⟨(nIn_ok g31), tv⟩ ?_
      obtain ⟨g32, H⟩ := of_need H
      refine WL.gyv (LJ.Y.idxElpA 256 (fun k => .int .u8 (G_strings_asciiSpace.getD k default)) (byteAt a0 s28.toNat) (by kernel_rfl) rfl rfl rfl gl_1_take (nIn_ok g32)) rfl rfl rfl rfl rfl rfl (WL.grun 2 4 true 84 tk sg0 rfl rfl rfl rfl tv (WL.pickT rfl rfl rfl rfl rfl rfl (Wn (Qn (Wc rfl (fun h33 => ?_) (fun h33 => ?_))))))
      ·replace H := of_t H h33
       refine Wk (Qn (Wb (Wg (Wr 3 tk sg0 rfl rfl tv (Wn (Qb (Qn ?_)))))))
       exact ⟨⟨(k29, IntKind.i64.wrap (s28 + 1)), H⟩, Nat.lt_succ_self _, Less.mk' ⟨rfl, rfl, rfl, rfl, tv⟩ ⟨rfl, tv⟩⟩
      replace H := of_f H h33
      refine WC.exit (Qx (Qx (Qh (Qn ?_))))
      exact ⟨s28, H, LessW.mk' ⟨Ao rfl, Ao rfl, Ao rfl, Ao rfl, tv⟩ ⟨rfl, tv⟩⟩
     ·replace H := of_f H h30
      refine WL.gskips 6 4 true 84 rfl rfl rfl rfl (WL.pickF rfl rfl rfl rfl rfl rfl (Wn (Qn (Wc rfl (fun h => absurd h (by decide)) (fun h => ?_)))))
      refine WC.exit (Qx (Qx (Qh (Qn ?_))))
      exact ⟨s28, H, LessW.mk' ⟨Ao rfl, Ao rfl, Ao rfl, Ao rfl, tv⟩ ⟨rfl, tv⟩⟩
    ·rintro E m ⟨s27, H, hl⟩
     refine WC.lessW hl ?_
     replace H := (hK26 _).symm.trans H
     try dsimp only at H
     refine Wg (Wr 2 tk sg0 rfl rfl tv (Wn (Qb (Qn ?_))))
     exact ⟨⟨(k19, (IntKind.i64.wrap (s18.1 + 1), s27, s27, s18.2.2.2.set s18.1.toNat (a0.extract s18.2.1.toNat s18.2.2.1.toNat))), H⟩, Nat.lt_succ_self _, Less.mk' ⟨rfl, rfl, rfl, rfl, rfl, tv⟩ ⟨rfl, tv⟩⟩
   replace H := of_f H h20
   refine WC.exit (Qx (Qx (Qh (Qn ?_))))
   exact ⟨(s18.1, s18.2.1, s18.2.2.2), H, LessW.mk' ⟨Ao rfl, Ao rfl, Ao rfl, Ao rfl, tv⟩ ⟨rfl, tv⟩⟩
  ·rintro E m ⟨s17, H, hl⟩
   refine WC.lessW hl ?_
   replace H := (hK16 _).symm.trans H
   try dsimp only at H
   refine Ws (Ws (Wg (Wr 4 tk sg0 rfl rfl tv (Wn (Qn (Wc rfl (fun h34 => ?_) (fun h34 => ?_)))))))
   ·replace H := of_t H h34
    refine Wg ?_
    obtain ⟨g35, H⟩ := of_need H
    refine Wr 5 tk sg0 rfl rfl ⟨(nTo_ok g35), tv⟩ ?_
    obtain ⟨g36, H⟩ := of_need H
    refine WL.yv (LJ.Y.idxRel enc_str s17.2.2 s17.1 tk rfl rfl rfl rfl rfl (nIn_ok g36)) rfl rfl rfl (WL.storeRel enc_str s17.2.2 s17.1 0 (a0.extract s17.2.1.toNat a0.size) (.str (a0.extract s17.2.1.toNat a0.size)) rfl rfl rfl rfl (fun _ => rfl) rfl (by kernel_rfl) rfl rfl (by first | exact nIn_ok g36 | (have := nIn_ok g36; simpa only [List.length_set, List.length_map] using this)) rfl rfl rfl rfl ?_)
    refine Wn (Qn (Ws (Wg (Wr 2 tk sg0 rfl rfl tv (Wn (Qn (WC.freezeT 141 enc_str (s17.2.2.set s17.1.toNat (a0.extract s17.2.1.toNat a0.size)) rfl rfl rfl rfl (Wt ?_))))))))
    cases H
    exact Ea rfl rfl rfl tv
   replace H := of_f H h34
   refine Wk (Qn (Ws (Wg (Wr 2 tk sg0 rfl rfl tv (Wn (Qn (WC.freezeT 141 enc_str s17.2.2 rfl rfl rfl rfl (Wt ?_))))))))
   cases H
   exact Ea rfl rfl rfl tv
theorem strings_Fields_f : hasFunc Tryd.prog 53 Tryd.f53 := ⟨Tryd.func53, rfl, by kernel_rfl⟩

theorem op_Name_0 (a0 : Int) {r : ByteArray} (H : op_Name a0 = some r) : LJ.Spec Tryd.prog 65 [.d (.int .i64 a0)] [] (.d (.str r)) [] := by
 refine LJ.Spec.code Tryd.func65 rfl 10 rfl rfl [] rfl fun w0 F0 S0 B0 => ?_
 unfold op_Name at H
 refine Ws (Wg (Wr 1 tk sg0 rfl rfl tv (Wn (Qn (Ws (Ws (Wg (Wr 1 tk sg0 rfl rfl tv ?_))))))))
 obtain ⟨x1, hx1, H⟩ := of_bind H
 refine Wf [] (op_known_0 _ hx1) op_known_f rfl rfl tv rfl rfl rfl (Wr 1 tk sg0 rfl rfl tv (Wn (Qn (Wc rfl (fun h2 => ?_) (fun h2 => ?_)))))
 ·replace H := of_t H h2
  refine Ws (Wg (Wr 1 tk sg0 rfl rfl tv (Wn (Qn (Wt (QT.r ?_))))))
  cases H
  exact Ea rfl rfl rfl tv
 replace H := of_f H h2
 refine Wk (Qn (Ws (Wg ?_)))
 obtain ⟨x3, hx3, H⟩ := of_bind H
 refine Wf [] (strings_Fields_0 _ hx3) strings_Fields_f rfl rfl tv rfl rfl rfl ?_
 obtain ⟨g4, H⟩ := of_need H
 refine Wr 4 tk sg0 rfl rfl ⟨⟨(nIn_ok g4).1, (nIn_ok g4).2, rfl⟩, tv⟩ (Wn (Qn (Wt ?_)))
 cases H
 exact Ea rfl rfl rfl tv
theorem op_Name_f : hasFunc Tryd.prog 65 Tryd.f65 := ⟨Tryd.func65, rfl, by kernel_rfl⟩

theorem op_Form_0 (a0 : Int) {r : ByteArray} (H : op_Form a0 = some r) : LJ.Spec Tryd.prog 35 [.d (.int .i64 a0)] [] (.d (.str r)) [] := by
 refine LJ.Spec.code Tryd.func35 rfl 14 rfl rfl [] rfl fun w0 F0 S0 B0 => ?_
 unfold op_Form at H
 refine Ws (Wg (Wr 1 tk sg0 rfl rfl tv (Wn (Qn (Ws (Ws (Wg (Wr 1 tk sg0 rfl rfl tv ?_))))))))
 obtain ⟨x1, hx1, H⟩ := of_bind H
 refine Wf [] (op_known_0 _ hx1) op_known_f rfl rfl tv rfl rfl rfl (Wr 1 tk sg0 rfl rfl tv (Wn (Qn (Wc rfl (fun h2 => ?_) (fun h2 => ?_)))))
 ·replace H := of_t H h2
  refine Ws (Wg (Wr 1 tk sg0 rfl rfl tv (Wn (Qn (Wt (QT.r ?_))))))
  cases H
  exact Ea rfl rfl rfl tv
 replace H := of_f H h2
 refine Wk (Qn (Ws (Wg ?_)))
 obtain ⟨x3, hx3, H⟩ := of_bind H
 refine Wf [] (strings_Fields_0 _ hx3) strings_Fields_f rfl rfl tv rfl rfl rfl ?_
 obtain ⟨g4, H⟩ := of_need H
 refine Wr 4 tk sg0 rfl rfl ⟨⟨(nIn_ok g4).1, (nIn_ok g4).2, rfl⟩, tv⟩ (Wn (Qn (Ws (Ws (Wg (Wr 2 tk sg0 rfl rfl tv (Wn (Qn (Wc rfl (fun h5 => ?_) (fun h5 => ?_))))))))))
 ·replace H := of_t H h5
  refine Ws (Wg (Wr 1 tk sg0 rfl rfl tv (Wn (Qn (Wt (QT.r ?_))))))
  cases H
  exact Ea rfl rfl rfl tv
 replace H := of_f H h5
 refine Wk (Qn (Ws (Wg (Wr 2 tk sg0 rfl rfl tv (Wn (Qn (Wt ?_)))))))
 cases H
 exact Ea rfl rfl rfl tv
theorem op_Form_f : hasFunc Tryd.prog 35 Tryd.f35 := ⟨Tryd.func35, rfl, by kernel_rfl⟩

theorem ins_in_0 (a0 : Int) (a1 : Int) {r : Bool} (H : ins_in a0 a1 = some r) : LJ.Spec Tryd.prog 66 [.d (.int .u8 a0), .d (.int .i64 a1)] [] (.d (.bool r)) [] := by
 refine LJ.Spec.code Tryd.func66 rfl 56 rfl rfl [] rfl fun w0 F0 S0 B0 => ?_
 unfold ins_in at H
 refine Ws (Wg (Wr 1 tk sg0 rfl rfl tv (Wn (Qn (Ws (Ws (Wg (Wr 1 tk sg0 rfl rfl tv (Wn (Qn (Wb (Ws (Wg (Wr 2 tk sg0 rfl rfl tv (Wn (Qn (Wc rfl (fun h1 => ?_) (fun h1 => ?_))))))))))))))))))
 ·replace H := of_t H h1
  refine Ws (Wg (Wr 1 tk sg0 rfl rfl tv ?_))
  obtain ⟨x2, hx2, H⟩ := of_bind H
  refine Wf [] (word_Fits_0 _ hx2) word_Fits_f rfl rfl tv rfl rfl rfl (Wr 1 tk sg0 rfl rfl tv (Wn (Qn (Wt (QB.r (QT.r ?_))))))
  cases H
  exact Ea rfl rfl rfl tv
 replace H := of_f H h1
 refine Ws (Wg (Wr 2 tk sg0 rfl rfl tv (Wn (Qn (Wc rfl (fun h3 => ?_) (fun h3 => ?_))))))
 ·replace H := of_t H h3
  refine Ws (Wg (Wr 3 tk sg0 rfl rfl tv (Wx 2 2 true tk sg0 rfl rfl (fun _ => tv) (Wr 2 tk sg0 rfl rfl ⟨by first | exact id | exact fun h => by rw [h]; rfl | simp_all, tv⟩ (Wn (Qn (Wt (QB.r (QT.r ?_)))))))))
  cases H
  exact Ea rfl rfl rfl tv
 replace H := of_f H h3
 refine Ws (Wg (Wr 2 tk sg0 rfl rfl tv (Wn (Qn (Wc rfl (fun h4 => ?_) (fun h4 => ?_))))))
 ·replace H := of_t H h4
  refine Ws (Wg (Wr 3 tk sg0 rfl rfl tv (Wx 2 2 true tk sg0 rfl rfl (fun _ => tv) (Wr 2 tk sg0 rfl rfl ⟨by first | exact id | exact fun h => by rw [h]; rfl | simp_all, tv⟩ (Wn (Qn (Wt (QB.r (QT.r ?_)))))))))
  cases H
  exact Ea rfl rfl rfl tv
 replace H := of_f H h4
 refine Ws (Wg (Wr 2 tk sg0 rfl rfl tv (Wn (Qn (Wc rfl (fun h5 => ?_) (fun h5 => ?_))))))
 ·replace H := of_t H h5
  refine Ws (Wg (Wr 3 tk sg0 rfl rfl tv (Wx 2 2 true tk sg0 rfl rfl (fun _ => tv) (Wr 2 tk sg0 rfl rfl ⟨by first | exact id | exact fun h => by rw [h]; rfl | simp_all, tv⟩ (Wn (Qn (Wt (QB.r (QT.r ?_)))))))))
  cases H
  exact Ea rfl rfl rfl tv
 replace H := of_f H h5
 refine Ws (Wg (Wr 2 tk sg0 rfl rfl tv (Wn (Qn (Wc rfl (fun h6 => ?_) (fun h6 => ?_))))))
 ·replace H := of_t H h6
  refine Ws (Wg (Wr 3 tk sg0 rfl rfl tv (Wx 2 2 true tk sg0 rfl rfl (fun _ => tv) (Wr 2 tk sg0 rfl rfl ⟨by first | exact id | exact fun h => by rw [h]; rfl | simp_all, tv⟩ (Wn (Qn (Wt (QB.r (QT.r ?_)))))))))
  cases H
  exact Ea rfl rfl rfl tv
 replace H := of_f H h6
 refine Ws (Wg (Wr 2 tk sg0 rfl rfl tv (Wn (Qn (Wc rfl (fun h7 => ?_) (fun h7 => ?_))))))
 ·replace H := of_t H h7
  refine Ws (Wg (Wr 3 tk sg0 rfl rfl tv (Wx 2 2 true tk sg0 rfl rfl (fun _ => tv) (Wr 2 tk sg0 rfl rfl ⟨by first | exact id | exact fun h => by rw [h]; rfl | simp_all, tv⟩ (Wn (Qn (Wt (QB.r (QT.r ?_)))))))))
  cases H
  exact Ea rfl rfl rfl tv
 replace H := of_f H h7
 refine Wk (Qb (Qn ?_))
 refine Ws (Wg (Wr 3 tk sg0 rfl rfl tv (Wx 2 2 true tk sg0 rfl rfl (fun _ => tv) (Wr 2 tk sg0 rfl rfl ⟨by first | exact id | exact fun h => by rw [h]; rfl | simp_all, tv⟩ (Wn (Qn (Wt ?_)))))))
 cases H
 exact Ea rfl rfl rfl tv
theorem ins_in_f : hasFunc Tryd.prog 66 Tryd.f66 := ⟨Tryd.func66, rfl, by kernel_rfl⟩

theorem ins_Check_0 (a0 : T_api_Ins) {r : Int} (H : ins_Check a0 = some r) : LJ.Spec Tryd.prog 49 [.d (.agg [.int .i64 a0.Op, .int .i64 a0.A, .int .i64 a0.B])] [] (.d (.int .i64 r)) [] := by
 refine LJ.Spec.code Tryd.func49 rfl 54 rfl rfl [] rfl fun w0 F0 S0 B0 => ?_
 unfold ins_Check at H
 refine Ws (Wg (We 101 tk ek eg0 rfl rfl rfl tv (Wr 1 tk sg0 rfl rfl tv (Wn (Qn (Ws (Ws (Wg (Wr 2 tk sg0 rfl rfl tv ?_)))))))))
 obtain ⟨x1, hx1, H⟩ := of_bind H
 refine Wf [] (op_Name_0 _ hx1) op_Name_f rfl rfl tv rfl rfl rfl (Wr 1 tk sg0 rfl rfl tv (Wn (Qn (Wc rfl (fun h2 => ?_) (fun h2 => ?_)))))
 ·replace H := of_t H h2
  refine Ws (Wg (Wr 1 tk sg0 rfl rfl tv (Wn (Qn (Wt (QT.r ?_))))))
  cases H
  exact Ea rfl rfl rfl tv
 replace H := of_f H h2
 refine Wk (Qn (Ws ?_))
 obtain ⟨x3_2_1, hx3_2_1, H⟩ := of_bind H
 refine WC.heldF [(1, .ptr 101 0), (3, .d (.str x3_2_1)), (4, .ptr 104 0)] [(101, .box 46 [.d (.int .i64 a0.Op), .d (.int .i64 a0.A), .d (.int .i64 a0.B)]), (104, .box 76 [.d (.int .i64 a0.A), .d (.int .i64 a0.B)])] (.one 0 true (.one 1 true (.one 3 true (.one 4 true (.one 5 true (.one 6 true (.one 7 true (.fork (.one 2 false (.one 8 false (.one 9 true (.one 10 false .done)))) (.one 8 false (.one 2 false (.one 9 true (.one 10 false .done)))))))))))) [101] [101] rfl (by kernel_rfl) rfl (by kernel_rfl) rfl rfl (fun _ h => h) rfl rfl rfl (fun FK NK wK K => ?_) ?_
 ·refine Hr 6 tk rfl rfl rfl rfl tv (WH.yv rfl (LJ.Y.buildArr 2 [.int .i64 0, .int .i64 0] [.int .i64 a0.A, .int .i64 a0.B] (by kernel_rfl) (by kernel_rfl) rfl rfl rfl) rfl rfl rfl (WH.fork ?_ ?_))
  ·exact WH.call [] rfl (op_Form_0 _ hx3_2_1) op_Form_f rfl rfl tv rfl rfl rfl rfl rfl (WH.allocZ 104 [.int .i64 0, .int .i64 0] rfl rfl (by kernel_rfl) rfl rfl rfl rfl rfl rfl (Hr 1 tk rfl rfl rfl rfl tv (He 0 tk ek rfl rfl rfl rfl tv rfl rfl (Hn rfl (LessW.mk' ⟨Ao rfl, Ao rfl, Ao rfl, tv⟩ ⟨rfl, rfl, tv⟩)))))
  ·exact WH.allocZ 104 [.int .i64 0, .int .i64 0] rfl rfl (by kernel_rfl) rfl rfl rfl rfl rfl rfl (WH.call [] rfl (op_Form_0 _ hx3_2_1) op_Form_f rfl rfl tv rfl rfl rfl rfl rfl (Hr 1 tk rfl rfl rfl rfl tv (He 0 tk ek rfl rfl rfl rfl tv rfl rfl (Hn rfl (LessW.mk' ⟨Ao rfl, Ao rfl, Ao rfl, tv⟩ ⟨rfl, rfl, tv⟩)))))
 ·refine Qn (Ws (Ws (Wg (Wr 3 tk sg0 rfl rfl tv (Wn (Qn (Wb (Wl (ι := {x : Nat × Int // ins_Check_l4 a0 x3_2_1 x.1 x.2 = some r}) (fun x => [(1, .ptr 101 0), (3, .d (.str x3_2_1)), (4, .ptr 104 0), (21, .d (.int .i64 (x3_2_1.size : Int))), (22, .d (.int .i64 x.1.2))]) (fun x => [(101, .box 46 [.d (.int .i64 a0.Op), .d (.int .i64 a0.A), .d (.int .i64 a0.B)]), (104, .box 76 [.d (.int .i64 a0.A), .d (.int .i64 a0.B)])]) (fun x => x.1.1) ⟨(fuel, 0), H⟩ (Less.mk' ⟨rfl, rfl, rfl, rfl, rfl, tv⟩ ⟨rfl, rfl, tv⟩) fun x => ?_))))))))
  obtain ⟨⟨k4, s3⟩, H⟩ := x
  rcases k4 with _ | k4
  ·exact of_none H
  rw [ins_Check_l4] at H
  refine Ws (Wg (Wr 1 tk sg0 rfl rfl tv (Wn (Qn (Ws (Wc rfl (fun h5 => ?_) (fun h5 => ?_)))))))
  ·replace H := of_t H h5
   refine Wk (Qn (Ws (Wb (Ws (Wg (Wr 2 tk sg0 rfl rfl tv (Wn (Qn (Ws (Hp (.one 0 true (.one 1 true (.one 2 true (.one 3 true (.one 4 true (.one 5 true (.one 6 false (.one 7 true .done)))))))) [101, 104] [101, 104] rfl (by kernel_rfl) rfl (by kernel_rfl) rfl rfl (fun _ h => h) rfl rfl rfl (fun _ _ _ h => h) fun FK NK wK K => ?_))))))))))
   obtain ⟨g6, H⟩ := of_need H
   refine Hr 4 tk rfl rfl rfl rfl ⟨(nIn_ok g6), tv⟩ ?_
   obtain ⟨g7, H⟩ := of_need H
   refine WH.yv rfl (LJ.Y.idxPtrA 2 s3 (by kernel_rfl) rfl rfl rfl (nIn_ok g7)) rfl rfl rfl (WH.yv rfl (LJ.Y.loadPtrA 2 0 (fun k => .int .i64 (([a0.A, a0.B] : List Int).getD k default)) s3 rfl rfl rfl (by kernel_rfl) rfl (nIn_ok g7)) rfl rfl rfl ?_)
   obtain ⟨x8, hx8, H⟩ := of_bind H
   refine WH.call [] rfl (ins_in_0 _ _ hx8) ins_in_f rfl rfl tv rfl rfl rfl rfl rfl (Hr 1 tk rfl rfl rfl rfl tv (WH.nil rfl (Qn (Wc rfl (fun h9 => ?_) (fun h9 => ?_)))))
   ·replace H := of_t H h9
    refine Ws (Wg (Wr 1 tk sg0 rfl rfl tv (Wn (Qn (Wt (QB.r (QT.r (QT.r (QB.r (QT.r ?_))))))))))
    cases H
    exact Ea rfl rfl rfl tv
   replace H := of_f H h9
   refine Wk (Qb (Qn ?_))
   exact Wg (Wr 2 tk sg0 rfl rfl tv (Wn (Qn (⟨⟨(k4, IntKind.i64.wrap (s3 + 1)), H⟩, Nat.lt_succ_self _, Less.mk' ⟨rfl, rfl, rfl, rfl, rfl, tv⟩ ⟨rfl, rfl, tv⟩⟩))))
  replace H := of_f H h5
  refine WC.exit (Qx (Qx (Qh (Qn ?_))))
  refine Ws (Ws (Wg (Wr 3 tk sg0 rfl rfl tv (Wx 5 2 true tk sg0 rfl rfl (fun _ => tv) (Wr 1 tk sg0 rfl rfl ⟨by first | exact id | exact fun h => by rw [h]; rfl | simp_all, tv⟩ (Wn (Qn (Wc rfl (fun h10 => ?_) (fun h10 => ?_)))))))))
  ·replace H := of_t H h10
   refine Ws (Wg (Wr 1 tk sg0 rfl rfl tv (Wn (Qn (Wt (QT.r ?_))))))
   cases H
   exact Ea rfl rfl rfl tv
  replace H := of_f H h10
  refine Wk (Qn (Ws (Ws (Wg (Wr 2 tk sg0 rfl rfl tv ?_)))))
  obtain ⟨g11, H⟩ := of_need H
  refine WL.yv (LJ.Y.slicePsl 2 (x3_2_1.size : Int) ((2 : Nat) : Int) (by kernel_rfl) rfl rfl ⟨_, rfl⟩ rfl (nSl_ok g11)) rfl rfl rfl (WL.yv (LJ.Y.lenPsl tk rfl rfl rfl) rfl rfl rfl (Wr 1 tk sg0 rfl rfl tv (Wn (Qn (Wb (Wl (ι := {x : Nat × Int // ins_Check_l13 a0 x3_2_1 x.1 x.2 = some r}) (fun x => [(45, .psl 104 (0 + (x3_2_1.size : Int).toNat) (((2 : Nat) : Int) - (x3_2_1.size : Int)).toNat (2 - (x3_2_1.size : Int).toNat)), (46, .d (.int .i64 ((((2 : Nat) : Int) - (x3_2_1.size : Int)).toNat : Int))), (47, .d (.int .i64 x.1.2))]) (fun x => [(104, .box 76 [.d (.int .i64 a0.A), .d (.int .i64 a0.B)])]) (fun x => x.1.1) ⟨(fuel, 0), H⟩ (Less.mk' ⟨rfl, rfl, rfl, tv⟩ ⟨rfl, tv⟩) fun x => ?_))))))
  obtain ⟨⟨k13, s12⟩, H⟩ := x
  rcases k13 with _ | k13
  ·exact of_none H
  rw [ins_Check_l13] at H
  refine Ws (Wg (Wr 1 tk sg0 rfl rfl tv (Wn (Qn (Ws (Wc rfl (fun h14 => ?_) (fun h14 => ?_)))))))
  ·replace H := of_t H h14
   refine Wk (Qn (Ws (Wb (Ws (Wg ?_)))))
   obtain ⟨g15, H⟩ := of_need H
   obtain ⟨g16, H⟩ := of_need H
   obtain ⟨g17, H⟩ := of_need H
   refine WL.yv (LJ.Y.idxPsl (x3_2_1.size : Int) s12 0 tk rfl rfl rfl rfl (nNn_ok g15) (nIn_ok g16)) rfl rfl rfl (WL.yv (LJ.Y.loadPtrA 2 0 (fun k => .int .i64 (([a0.A, a0.B] : List Int).getD k default)) ((x3_2_1.size : Int) + s12) rfl rfl rfl (by kernel_rfl) rfl (nIn_ok g17)) rfl rfl rfl (Wr 1 tk sg0 rfl rfl tv (Wn (Qn (Ws (Wg (Wr 2 tk sg0 rfl rfl tv (Wn (Qn (Wc rfl (fun h18 => ?_) (fun h18 => ?_)))))))))))
   ·replace H := of_t H h18
    refine Ws (Wg (Wr 1 tk sg0 rfl rfl tv (Wn (Qn (Wt (QB.r (QT.r (QT.r (QB.r (QT.r ?_))))))))))
    cases H
    exact Ea rfl rfl rfl tv
   replace H := of_f H h18
   refine Wk (Qb (Qn ?_))
   exact Wg (Wr 2 tk sg0 rfl rfl tv (Wn (Qn (⟨⟨(k13, IntKind.i64.wrap (s12 + 1)), H⟩, Nat.lt_succ_self _, Less.mk' ⟨rfl, rfl, rfl, tv⟩ ⟨rfl, tv⟩⟩))))
  replace H := of_f H h14
  refine WC.exit (Qx (Qx (Qh (Qn ?_))))
  refine Ws (Wg (Wr 1 tk sg0 rfl rfl tv (Wn (Qn (Wt ?_)))))
  cases H
  exact Ea rfl rfl rfl tv
theorem ins_Check_f : hasFunc Tryd.prog 49 Tryd.f49 := ⟨Tryd.func49, rfl, by kernel_rfl⟩

theorem prog_function_0 (a0 : T_api_Func) {r : Int} (H : prog_function a0 = some r) : LJ.Spec Tryd.prog 31 [.d (.agg [.int .i64 a0.Args, .int .i64 a0.Locals, slT enc_api_Ins a0.Code])] [] (.d (.int .i64 r)) [] := by
 refine LJ.Spec.code Tryd.func31 rfl 45 rfl rfl [] rfl fun w0 F0 S0 B0 => ?_
 unfold prog_function at H
 refine Ws (Wg (We 101 tk ek eg0 rfl rfl rfl tv (Wr 1 tk sg0 rfl rfl tv (Wn (Qn (Ws (Wb (Ws (Wg (Wr 4 tk sg0 rfl rfl tv (Wx 5 3 false tk sg0 rfl rfl (fun _ => tv) (Wr 2 tk sg0 rfl rfl ⟨by first | exact id | exact fun h => by rw [h]; rfl | simp_all, tv⟩ (Wx 3 10 false tk sg0 rfl rfl (fun _ => tv) (Wr 2 tk sg0 rfl rfl ⟨by first | exact id | exact fun h => by rw [h]; rfl | simp_all, tv⟩ (Wn (Qn (Wc rfl (fun h1 => ?_) (fun h1 => ?_))))))))))))))))))
 ·replace H := of_t H h1
  refine Ws (Wg (Wr 1 tk sg0 rfl rfl tv (Wn (Qn (Wt (QB.r (QT.r ?_)))))))
  cases H
  exact Ea rfl rfl rfl tv
 replace H := of_f H h1
 refine Ws (Wg (Wr 5 tk sg0 rfl rfl tv (Wn (Qn (Wc rfl (fun h2 => ?_) (fun h2 => ?_))))))
 ·replace H := of_t H h2
  refine Ws (Wg (Wr 1 tk sg0 rfl rfl tv (Wn (Qn (Wt (QB.r (QT.r ?_)))))))
  cases H
  exact Ea rfl rfl rfl tv
 replace H := of_f H h2
 refine Ws (Wg (Wr 5 tk sg0 rfl rfl tv (Wn (Qn (Wc rfl (fun h3 => ?_) (fun h3 => ?_))))))
 ·replace H := of_t H h3
  refine Ws (Wg (Wr 1 tk sg0 rfl rfl tv (Wn (Qn (Wt (QB.r (QT.r ?_)))))))
  cases H
  exact Ea rfl rfl rfl tv
 replace H := of_f H h3
 refine Wk (Qb (Qn ?_))
 refine Ws (Ws (Wg (Wr 4 tk sg0 rfl rfl tv (Wn (Qn (Wb (Wl (ι := {x : Nat × Int // prog_function_l5 a0 x.1 x.2 = some r}) (fun x => [(33, .d (slT enc_api_Ins a0.Code)), (34, .d (.int .i64 (a0.Code.length : Int))), (35, .d (.int .i64 x.1.2))]) (fun x => []) (fun x => x.1.1) ⟨(fuel, 0), H⟩ (Less.mk' ⟨rfl, rfl, rfl, tv⟩ tv) fun x => ?_)))))))
 obtain ⟨⟨k5, s4⟩, H⟩ := x
 rcases k5 with _ | k5
 ·exact of_none H
 rw [prog_function_l5] at H
 refine Ws (Wg (Wr 1 tk sg0 rfl rfl tv (Wn (Qn (Ws (Wc rfl (fun h6 => ?_) (fun h6 => ?_)))))))
 ·replace H := of_t H h6
  refine Wk (Qn (Ws (Wb (Ws (Wg ?_)))))
  obtain ⟨g7, H⟩ := of_need H
  refine Wr 2 tk sg0 rfl rfl ⟨⟨(nIn_ok g7).1, (nIn_ok g7).2, rfl⟩, tv⟩ (Wa 104 tk rfl rfl rfl (We 0 tk ek eg0 rfl rfl rfl tv (Wn (Qn (Ws (Wg (Wr 1 tk sg0 rfl rfl tv ?_)))))))
  obtain ⟨x8, hx8, H⟩ := of_bind H
  refine Wf [] (ins_Check_0 _ hx8) ins_Check_f rfl rfl tv rfl rfl rfl (Wr 1 tk sg0 rfl rfl tv (Wn (Qn (Ws (Wg (Wr 2 tk sg0 rfl rfl tv (Wn (Qn (Wc rfl (fun h9 => ?_) (fun h9 => ?_))))))))))
  ·replace H := of_t H h9
   refine Ws (Wg (Wr 2 tk sg0 rfl rfl tv (Wn (Qn (Wt (QB.r (QT.r (QT.r (QB.r (QT.r ?_))))))))))
   cases H
   exact Ea rfl rfl rfl tv
  replace H := of_f H h9
  refine Wk (Qb (Qn ?_))
  exact Wg (Wr 2 tk sg0 rfl rfl tv (Wn (Qn (⟨⟨(k5, IntKind.i64.wrap (s4 + 1)), H⟩, Nat.lt_succ_self _, Less.mk' ⟨rfl, rfl, rfl, tv⟩ tv⟩))))
 replace H := of_f H h6
 refine WC.exit (Qx (Qx (Qh (Qn ?_))))
 refine Ws (Wg (Wr 1 tk sg0 rfl rfl tv (Wn (Qn (Wt ?_)))))
 cases H
 exact Ea rfl rfl rfl tv
theorem prog_function_f : hasFunc Tryd.prog 31 Tryd.f31 := ⟨Tryd.func31, rfl, by kernel_rfl⟩

theorem prog_Check_0 (a0 : T_api_Program) {r : Int} (H : prog_Check a0 = some r) : LJ.Spec Tryd.prog 17 [.d (.agg [slT enc_api_Decl a0.Decls, slT enc_sl_sl_api_Need a0.Waits, slT enc_api_Func a0.Funcs])] [] (.d (.int .i64 r)) [] := by
 refine LJ.Spec.code Tryd.func17 rfl 60 rfl rfl [] rfl fun w0 F0 S0 B0 => ?_
 unfold prog_Check at H
 refine Ws (Wg (We 101 tk ek eg0 rfl rfl rfl tv (Wr 1 tk sg0 rfl rfl tv (Wn (Qn (Ws (Ws (Wg (Wr 2 tk sg0 rfl rfl tv ?_)))))))))
 obtain ⟨x1, hx1, H⟩ := of_bind H
 refine Wf [] (decl_Check_0 _ hx1) decl_Check_f rfl rfl tv rfl rfl rfl (Wr 5 tk sg0 rfl rfl tv (Wn (Qn (Ws (Wg (Wr 2 tk sg0 rfl rfl tv (Wn (Qn (Wc rfl (fun h2 => ?_) (fun h2 => ?_))))))))))
 ·replace H := of_t H h2
  refine Ws (Wg (Wr 2 tk sg0 rfl rfl tv (Wn (Qn (Wt (QT.r ?_))))))
  cases H
  exact Ea rfl rfl rfl tv
 replace H := of_f H h2
 refine Wk (Qn (Ws (Ws (Wg (Wr 4 tk sg0 rfl rfl tv (Wn (Qn (Wc rfl (fun h3 => ?_) (fun h3 => ?_)))))))))
 ·replace H := of_t H h3
  refine Ws (Wg (Wr 1 tk sg0 rfl rfl tv (Wn (Qn (Wt (QT.r ?_))))))
  cases H
  exact Ea rfl rfl rfl tv
 replace H := of_f H h3
 refine Wk (Qn (Ws (Ws (Wg (Wr 4 tk sg0 rfl rfl tv (Wn (Qn (Wb (Wl (ι := {x : Nat × Int // prog_Check_l5 a0 x.1 x.2 = some r}) (fun x => [(1, .ptr 101 0), (25, .d (slT enc_sl_sl_api_Need a0.Waits)), (26, .d (.int .i64 (a0.Waits.length : Int))), (27, .d (.int .i64 x.1.2))]) (fun x => [(101, .box 26 [.d (slT enc_api_Decl a0.Decls), .d (slT enc_sl_sl_api_Need a0.Waits), .d (slT enc_api_Func a0.Funcs)])]) (fun x => x.1.1) ⟨(fuel, 0), H⟩ (Less.mk' ⟨rfl, rfl, rfl, rfl, tv⟩ ⟨rfl, tv⟩) fun x => ?_)))))))))
 obtain ⟨⟨k5, s4⟩, H⟩ := x
 rcases k5 with _ | k5
 ·exact of_none H
 rw [prog_Check_l5] at H
 refine Ws (Wg (Wr 1 tk sg0 rfl rfl tv (Wn (Qn (Ws (Wc rfl (fun h6 => ?_) (fun h6 => ?_)))))))
 ·replace H := of_t H h6
  refine Wk (Qn (Ws (Wb (Ws (Wg ?_)))))
  obtain ⟨g7, H⟩ := of_need H
  refine Wr 3 tk sg0 rfl rfl ⟨⟨(nIn_ok g7).1, (nIn_ok g7).2, rfl⟩, tv⟩ (Wn (Qn (Ws (Wg (Wr 3 tk sg0 rfl rfl tv ?_)))))
  obtain ⟨x8, hx8, H⟩ := of_bind H
  refine Wf [] (need_Check_0 _ _ hx8) need_Check_f rfl rfl tv rfl rfl rfl (Wr 1 tk sg0 rfl rfl tv (Wn (Qn (Ws (Wg (Wr 2 tk sg0 rfl rfl tv (Wn (Qn (Wc rfl (fun h9 => ?_) (fun h9 => ?_))))))))))
  ·replace H := of_t H h9
   refine Ws (Wg (Wr 2 tk sg0 rfl rfl tv (Wn (Qn (Wt (QB.r (QT.r (QT.r (QB.r (QT.r ?_))))))))))
   cases H
   exact Ea rfl rfl rfl tv
  replace H := of_f H h9
  refine Wk (Qb (Qn ?_))
  exact Wg (Wr 2 tk sg0 rfl rfl tv (Wn (Qn (⟨⟨(k5, IntKind.i64.wrap (s4 + 1)), H⟩, Nat.lt_succ_self _, Less.mk' ⟨rfl, rfl, rfl, rfl, tv⟩ ⟨rfl, tv⟩⟩))))
 replace H := of_f H h6
 refine WC.exit (Qx (Qx (Qh (Qn ?_))))
 refine Ws (Ws (Wg (Wr 4 tk sg0 rfl rfl tv (Wn (Qn (Wc rfl (fun h10 => ?_) (fun h10 => ?_)))))))
 ·replace H := of_t H h10
  refine Ws (Wg (Wr 1 tk sg0 rfl rfl tv (Wn (Qn (Wt (QT.r ?_))))))
  cases H
  exact Ea rfl rfl rfl tv
 replace H := of_f H h10
 refine Wk (Qn (Ws (Ws (Wg (Wr 4 tk sg0 rfl rfl tv (Wn (Qn (Wc rfl (fun h11 => ?_) (fun h11 => ?_)))))))))
 ·replace H := of_t H h11
  refine Ws (Wg (Wr 1 tk sg0 rfl rfl tv (Wn (Qn (Wt (QT.r ?_))))))
  cases H
  exact Ea rfl rfl rfl tv
 replace H := of_f H h11
 refine Wk (Qn (Ws (Ws (Wg (Wr 4 tk sg0 rfl rfl tv (Wn (Qn (Wb (Wl (ι := {x : Nat × Int // prog_Check_l13 a0 x.1 x.2 = some r}) (fun x => [(48, .d (slT enc_api_Func a0.Funcs)), (49, .d (.int .i64 (a0.Funcs.length : Int))), (50, .d (.int .i64 x.1.2))]) (fun x => []) (fun x => x.1.1) ⟨(fuel, 0), H⟩ (Less.mk' ⟨rfl, rfl, rfl, tv⟩ tv) fun x => ?_)))))))))
 obtain ⟨⟨k13, s12⟩, H⟩ := x
 rcases k13 with _ | k13
 ·exact of_none H
 rw [prog_Check_l13] at H
 refine Ws (Wg (Wr 1 tk sg0 rfl rfl tv (Wn (Qn (Ws (Wc rfl (fun h14 => ?_) (fun h14 => ?_)))))))
 ·replace H := of_t H h14
  refine Wk (Qn (Ws (Wb (Ws (Wg ?_)))))
  obtain ⟨g15, H⟩ := of_need H
  refine Wr 2 tk sg0 rfl rfl ⟨⟨(nIn_ok g15).1, (nIn_ok g15).2, rfl⟩, tv⟩ (Wa 109 tk rfl rfl rfl (We 0 tk ek eg0 rfl rfl rfl tv (Wn (Qn (Ws (Wg (Wr 1 tk sg0 rfl rfl tv ?_)))))))
  obtain ⟨x16, hx16, H⟩ := of_bind H
  refine Wf [] (prog_function_0 _ hx16) prog_function_f rfl rfl tv rfl rfl rfl (Wr 1 tk sg0 rfl rfl tv (Wn (Qn (Ws (Wg (Wr 2 tk sg0 rfl rfl tv (Wn (Qn (Wc rfl (fun h17 => ?_) (fun h17 => ?_))))))))))
  ·replace H := of_t H h17
   refine Ws (Wg (Wr 2 tk sg0 rfl rfl tv (Wn (Qn (Wt (QB.r (QT.r (QT.r (QB.r (QT.r ?_))))))))))
   cases H
   exact Ea rfl rfl rfl tv
  replace H := of_f H h17
  refine Wk (Qb (Qn ?_))
  exact Wg (Wr 2 tk sg0 rfl rfl tv (Wn (Qn (⟨⟨(k13, IntKind.i64.wrap (s12 + 1)), H⟩, Nat.lt_succ_self _, Less.mk' ⟨rfl, rfl, rfl, tv⟩ tv⟩))))
 replace H := of_f H h14
 refine WC.exit (Qx (Qx (Qh (Qn ?_))))
 refine Ws (Wg (Wr 1 tk sg0 rfl rfl tv (Wn (Qn (Wt ?_)))))
 cases H
 exact Ea rfl rfl rfl tv
theorem prog_Check_f : hasFunc Tryd.prog 17 Tryd.f17 := ⟨Tryd.func17, rfl, by kernel_rfl⟩

theorem verify_operand_0 (a0 : T_api_Program) (a1 : T_api_Func) (a2 : T_api_Ins) (a3 : Int) (a4 : Int) {r : Int} (H : verify_operand a0 a1 a2 a3 a4 = some r) : LJ.Spec Tryd.prog 37 [.d (.agg [slT enc_api_Decl a0.Decls, slT enc_sl_sl_api_Need a0.Waits, slT enc_api_Func a0.Funcs]), .d (.agg [.int .i64 a1.Args, .int .i64 a1.Locals, slT enc_api_Ins a1.Code]), .d (.agg [.int .i64 a2.Op, .int .i64 a2.A, .int .i64 a2.B]), .d (.int .u8 a3), .d (.int .i64 a4)] [] (.d (.int .i64 r)) [] := by
 refine LJ.Spec.code Tryd.func37 rfl 65 rfl rfl [] rfl fun w0 F0 S0 B0 => ?_
 unfold verify_operand at H
 refine Ws (Wg (We 105 tk ek eg0 rfl rfl rfl tv (We 106 tk ek eg0 rfl rfl rfl tv (We 107 tk ek eg0 rfl rfl rfl tv (Wr 1 tk sg0 rfl rfl tv (Wn (Qn (Ws (Wg (Wr 1 tk sg0 rfl rfl tv (Wn (Qn (Ws (Ws (Wg (Wr 1 tk sg0 rfl rfl tv (Wn (Qn (Wb (Ws (Ws (Wg (Wr 2 tk sg0 rfl rfl tv (Wn (Qn (Wc rfl (fun h1 => ?_) (fun h1 => ?_)))))))))))))))))))))))))))
 ·replace H := of_t H h1
  refine WC.known (g := 19) true rfl h1 (Wk (Qn (Wc rfl (fun h => ?_) (fun h => absurd h (by decide)))))
  refine Wk (Qb (Qn ?_))
  refine Ws (Ws (Wg (Wr 2 tk sg0 rfl rfl tv (Wn (Qn (Wc rfl (fun h => absurd h (by decide)) (fun h => ?_)))))))
  refine Wk (Qn (Ws (Wg (Wr 1 tk sg0 rfl rfl tv (Wn (Qn (Wt ?_)))))))
  cases H
  exact Ea rfl rfl rfl tv
 replace H := of_f H h1
 refine Wg (Wr 2 tk sg0 rfl rfl tv (Wn (Qn (Wc rfl (fun h2 => ?_) (fun h2 => ?_)))))
 ·replace H := of_t H h2
  refine Wk (Qb (Qn ?_))
  refine Ws (Ws (Wg (Wr 2 tk sg0 rfl rfl tv (Wn (Qn (Wc rfl (fun h => absurd h (by decide)) (fun h => ?_)))))))
  refine Wk (Qn (Ws (Wg (Wr 1 tk sg0 rfl rfl tv (Wn (Qn (Wt ?_)))))))
  cases H
  exact Ea rfl rfl rfl tv
 replace H := of_f H h2
 refine Ws (Wg (Wr 2 tk sg0 rfl rfl tv (Wn (Qn (Wc rfl (fun h3 => ?_) (fun h3 => ?_))))))
 ·replace H := of_t H h3
  refine Wg (Wr 5 tk sg0 rfl rfl tv (Wn (Qb (Qn ?_))))
  refine Ws (Ws (Wg (Wr 2 tk sg0 rfl rfl tv (Wn (Qn (Wc rfl (fun h4 => ?_) (fun h4 => ?_)))))))
  ·replace H := of_t H h4
   refine Ws (Wg (Wr 1 tk sg0 rfl rfl tv (Wn (Qn (Wt (QT.r ?_))))))
   cases H
   exact Ea rfl rfl rfl tv
  replace H := of_f H h4
  refine Wk (Qn (Ws (Wg (Wr 1 tk sg0 rfl rfl tv (Wn (Qn (Wt ?_)))))))
  cases H
  exact Ea rfl rfl rfl tv
 replace H := of_f H h3
 refine Ws (Wg (Wr 2 tk sg0 rfl rfl tv (Wn (Qn (Wc rfl (fun h5 => ?_) (fun h5 => ?_))))))
 ·replace H := of_t H h5
  refine Wg (Wr 6 tk sg0 rfl rfl tv (Wn (Qb (Qn ?_))))
  refine Ws (Ws (Wg (Wr 2 tk sg0 rfl rfl tv (Wn (Qn (Wc rfl (fun h6 => ?_) (fun h6 => ?_)))))))
  ·replace H := of_t H h6
   refine Ws (Wg (Wr 1 tk sg0 rfl rfl tv (Wn (Qn (Wt (QT.r ?_))))))
   cases H
   exact Ea rfl rfl rfl tv
  replace H := of_f H h6
  refine Wk (Qn (Ws (Wg (Wr 1 tk sg0 rfl rfl tv (Wn (Qn (Wt ?_)))))))
  cases H
  exact Ea rfl rfl rfl tv
 replace H := of_f H h5
 refine Ws (Wg (Wr 2 tk sg0 rfl rfl tv (Wn (Qn (Wc rfl (fun h7 => ?_) (fun h7 => ?_))))))
 ·replace H := of_t H h7
  refine Wg (Wr 6 tk sg0 rfl rfl tv (Wx 4 5 true tk sg0 rfl rfl (fun _ => tv) ?_))
  obtain ⟨g8, H⟩ := of_needS H
  refine Wx 7 9 false tk sg0 rfl rfl (fun hb => ⟨⟨(nIn_ok (g8 hb)).1, (nIn_ok (g8 hb)).2, rfl⟩, tv⟩) (Wx 1 5 true tk sg0 rfl rfl (fun hb => ⟨by first | exact id | exact ⟨hb, fun h => by rw [hb, h]; rfl⟩ | exact ⟨hb, id⟩ | exact fun h => by rw [hb, h]; rfl | exact fun h => by rw [h]; rfl | simp_all, tv⟩) (Wr 2 tk sg0 rfl rfl ⟨by first | exact id | exact fun h => by rw [h]; rfl | simp_all, tv⟩ (Wn (Qb (Qn ?_)))))
  refine Ws (Ws (Wg (Wr 2 tk sg0 rfl rfl tv (Wn (Qn (Wc rfl (fun h9 => ?_) (fun h9 => ?_)))))))
  ·replace H := of_t H h9
   refine Ws (Wg (Wr 1 tk sg0 rfl rfl tv (Wn (Qn (Wt (QT.r ?_))))))
   cases H
   exact Ea rfl rfl rfl tv
  replace H := of_f H h9
  refine Wk (Qn (Ws (Wg (Wr 1 tk sg0 rfl rfl tv (Wn (Qn (Wt ?_)))))))
  cases H
  exact Ea rfl rfl rfl tv
 replace H := of_f H h7
 refine Ws (Wg (Wr 2 tk sg0 rfl rfl tv (Wn (Qn (Wc rfl (fun h10 => ?_) (fun h10 => ?_))))))
 ·replace H := of_t H h10
  refine Wg (Wr 6 tk sg0 rfl rfl tv (Wn (Qb (Qn ?_))))
  refine Ws (Ws (Wg (Wr 2 tk sg0 rfl rfl tv (Wn (Qn (Wc rfl (fun h11 => ?_) (fun h11 => ?_)))))))
  ·replace H := of_t H h11
   refine Ws (Wg (Wr 1 tk sg0 rfl rfl tv (Wn (Qn (Wt (QT.r ?_))))))
   cases H
   exact Ea rfl rfl rfl tv
  replace H := of_f H h11
  refine Wk (Qn (Ws (Wg (Wr 1 tk sg0 rfl rfl tv (Wn (Qn (Wt ?_)))))))
  cases H
  exact Ea rfl rfl rfl tv
 replace H := of_f H h10
 refine Ws (Wg (Wr 4 tk sg0 rfl rfl tv ?_))
 obtain ⟨x12, hx12, H⟩ := of_bind H
 refine Wf [] (decl_Fits_0 _ _ _ hx12) decl_Fits_f rfl rfl tv rfl rfl rfl (Wr 1 tk sg0 rfl rfl tv (Wn (Qn (Wc rfl (fun h13 => ?_) (fun h13 => ?_)))))
 ·replace H := of_t H h13
  refine Ws (Wg (Wr 1 tk sg0 rfl rfl tv (Wn (Qn (Wt (QB.r (QT.r ?_)))))))
  cases H
  exact Ea rfl rfl rfl tv
 replace H := of_f H h13
 refine Wk (Qb (Qn ?_))
 refine Ws (Ws (Wg (Wr 2 tk sg0 rfl rfl tv (Wn (Qn (Wc rfl (fun h => absurd h (by decide)) (fun h => ?_)))))))
 refine Wk (Qn (Ws (Wg (Wr 1 tk sg0 rfl rfl tv (Wn (Qn (Wt ?_)))))))
 cases H
 exact Ea rfl rfl rfl tv
theorem verify_operand_f : hasFunc Tryd.prog 37 Tryd.f37 := ⟨Tryd.func37, rfl, by kernel_rfl⟩

theorem depth_walk_wrong_0 (a0 : T_depth_walk) (a1 : Int) (a2 : Int) {r : T_depth_walk} (H : depth_walk_wrong a0 a1 a2 = some r) : LJ.Spec Tryd.prog 69 [.ptr 0 0, .d (.int .i64 a1), .d (.int .i64 a2)] [(0, .box 97 [.d (slT enc_api_Decl a0.p.Decls), .d (slT enc_sl_sl_api_Need a0.p.Waits), .d (slT enc_api_Func a0.p.Funcs), .d (slT enc_api_Ins a0.code), .own 1, .own 2, .d (.int .i64 a0.at_), .d (.int .i64 a0.err)]), (1, .row 3 1 (a0.depth.map enc_i64)), (2, .row 4 1 (a0.next.map enc_bool))] (.tup []) [(1, .row 3 1 (r.depth.map enc_i64)), (2, .row 4 1 (r.next.map enc_bool)), (0, .box 97 [.d (slT enc_api_Decl r.p.Decls), .d (slT enc_sl_sl_api_Need r.p.Waits), .d (slT enc_api_Func r.p.Funcs), .d (slT enc_api_Ins r.code), .own 1, .own 2, .d (.int .i64 r.at_), .d (.int .i64 r.err)])] := by
 refine LJ.Spec.code Tryd.func69 rfl 27 rfl rfl [0] rfl fun w0 F0 S0 B0 => ?_
 unfold depth_walk_wrong at H
 refine Ws (Wg (Wr 6 tk sg0 rfl rfl tv (Wx 6 5 false tk sg0 rfl rfl (fun _ => tv) (Wr 1 tk sg0 rfl rfl ⟨by first | exact id | exact fun h => by rw [h]; rfl | simp_all, tv⟩ (Wn (Qn (Wc rfl (fun h1 => ?_) (fun h1 => ?_))))))))
 ·replace H := of_t H h1
  refine Wg (Wr 6 tk sg0 rfl rfl tv (We 0 tk ek eg0 rfl rfl rfl tv (Wr 2 tk sg0 rfl rfl tv (We 0 tk ek eg0 rfl rfl rfl tv (Wn ?_)))))
  cases H
  exact Ends.auton rfl rfl rfl ⟨rfl, rfl, rfl, tv⟩
 replace H := of_f H h1
 refine Wk ?_
 cases H
 exact Ends.auton rfl rfl rfl ⟨rfl, rfl, rfl, tv⟩
theorem depth_walk_wrong_s (n0 n1 n2 : Nat) (hn : nodupB [n0, n1, n2] = true) (a0 : T_depth_walk) (a1 : Int) (a2 : Int) {r : T_depth_walk} (H : depth_walk_wrong a0 a1 a2 = some r) : LJ.Spec Tryd.prog 69 [.ptr n0 0, .d (.int .i64 a1), .d (.int .i64 a2)] [(n0, .box 97 [.d (slT enc_api_Decl a0.p.Decls), .d (slT enc_sl_sl_api_Need a0.p.Waits), .d (slT enc_api_Func a0.p.Funcs), .d (slT enc_api_Ins a0.code), .own n1, .own n2, .d (.int .i64 a0.at_), .d (.int .i64 a0.err)]), (n1, .row 3 1 (a0.depth.map enc_i64)), (n2, .row 4 1 (a0.next.map enc_bool))] (.tup []) [(n1, .row 3 1 (r.depth.map enc_i64)), (n2, .row 4 1 (r.next.map enc_bool)), (n0, .box 97 [.d (slT enc_api_Decl r.p.Decls), .d (slT enc_sl_sl_api_Need r.p.Waits), .d (slT enc_api_Func r.p.Funcs), .d (slT enc_api_Ins r.code), .own n1, .own n2, .d (.int .i64 r.at_), .d (.int .i64 r.err)])] :=
 Spec.names [n0, n1, n2] hn rfl rfl (depth_walk_wrong_0 a0 a1 a2 H)
theorem depth_walk_wrong_f : hasFunc Tryd.prog 69 Tryd.f69 := ⟨Tryd.func69, rfl, by kernel_rfl⟩

theorem depth_walk_leads_0 (a0 : T_depth_walk) (a1 : Int) (a2 : Int) (a3 : Int) {r : Bool × T_depth_walk} (H : depth_walk_leads a0 a1 a2 a3 = some r) : LJ.Spec Tryd.prog 55 [.ptr 0 0, .d (.int .i64 a1), .d (.int .i64 a2), .d (.int .i64 a3)] [(0, .box 97 [.d (slT enc_api_Decl a0.p.Decls), .d (slT enc_sl_sl_api_Need a0.p.Waits), .d (slT enc_api_Func a0.p.Funcs), .d (slT enc_api_Ins a0.code), .own 1, .own 2, .d (.int .i64 a0.at_), .d (.int .i64 a0.err)]), (1, .row 3 1 (a0.depth.map enc_i64)), (2, .row 4 1 (a0.next.map enc_bool))] (.d (.bool r.1)) [(1, .row 3 1 (r.2.depth.map enc_i64)), (2, .row 4 1 (r.2.next.map enc_bool)), (0, .box 97 [.d (slT enc_api_Decl r.2.p.Decls), .d (slT enc_sl_sl_api_Need r.2.p.Waits), .d (slT enc_api_Func r.2.p.Funcs), .d (slT enc_api_Ins r.2.code), .own 1, .own 2, .d (.int .i64 r.2.at_), .d (.int .i64 r.2.err)])] := by
 refine LJ.Spec.code Tryd.func55 rfl 55 rfl rfl [0] rfl fun w0 F0 S0 B0 => ?_
 unfold depth_walk_leads at H
 refine Ws (Wg (Wr 1 tk sg0 rfl rfl tv (Wn (Qn (Ws (Wb (Ws (Wg (Wr 8 tk sg0 rfl rfl tv (Wn (Qn (Wc rfl (fun h1 => ?_) (fun h1 => ?_)))))))))))))
 ·replace H := of_t H h1
  refine Ws (Wg (Wr 2 tk sg0 rfl rfl tv ?_))
  obtain ⟨x2, hx2, H⟩ := of_bind H
  refine Wf [1, 2] (depth_walk_wrong_s 0 1 2 rfl _ _ _ hx2) depth_walk_wrong_f rfl rfl ⟨rfl, rfl, rfl, tv⟩ rfl rfl rfl (Wn (Qn (Ws (Wg (Wr 1 tk sg0 rfl rfl tv (Wn (Qn (Wt (QB.r (QT.r ?_))))))))))
  cases H
  exact Ea rfl rfl rfl ⟨rfl, rfl, rfl, tv⟩
 replace H := of_f H h1
 refine Ws (Wg (Wr 5 tk sg0 rfl rfl tv ?_))
 obtain ⟨g3, H⟩ := of_need H
 refine WL.yv (LJ.Y.idxRel enc_i64 a0.depth a2 tk rfl rfl rfl rfl rfl (nIn_ok g3)) rfl rfl rfl (WL.yv (LJ.Y.loadRel enc_i64 a0.depth a2 0 rfl rfl (fun _ => rfl) rfl (by kernel_rfl) rfl (by first | exact nIn_ok g3 | (have := nIn_ok g3; simpa only [List.length_set, List.length_map] using this))) rfl rfl rfl (Wr 2 tk sg0 rfl rfl tv (Wn (Qn (Wc rfl (fun h4 => ?_) (fun h4 => ?_))))))
 ·replace H := of_t H h4
  refine Ws (Wg (Wr 6 tk sg0 rfl rfl tv ?_))
  obtain ⟨g5, H⟩ := of_need H
  refine WL.yv (LJ.Y.idxRel enc_i64 a0.depth a2 tk rfl rfl rfl rfl rfl (nIn_ok g5)) rfl rfl rfl (WL.storeRel enc_i64 a0.depth a2 0 a3 (.int .i64 a3) rfl rfl rfl rfl (fun _ => rfl) rfl (by kernel_rfl) rfl rfl (by first | exact nIn_ok g5 | (have := nIn_ok g5; simpa only [List.length_set, List.length_map] using this)) rfl rfl rfl rfl ?_)
  refine Wn (Qn (Wg (Wr 5 tk sg0 rfl rfl tv ?_)))
  obtain ⟨g6, H⟩ := of_need H
  refine WL.yv (LJ.Y.idxRel enc_bool a0.next a2 tk rfl rfl rfl rfl rfl (nIn_ok g6)) rfl rfl rfl (WL.storeRel enc_bool a0.next a2 0 true (.bool true) rfl rfl rfl rfl (fun _ => rfl) rfl (by kernel_rfl) rfl rfl (by first | exact nIn_ok g6 | (have := nIn_ok g6; simpa only [List.length_set, List.length_map] using this)) rfl rfl rfl rfl ?_)
  refine Wn (Qb (Qn ?_))
  refine Ws (Wg (Wr 1 tk sg0 rfl rfl tv (Wn (Qn (Wt ?_)))))
  cases H
  exact Ea rfl rfl rfl ⟨rfl, rfl, rfl, tv⟩
 replace H := of_f H h4
 refine Ws (Wg (Wr 5 tk sg0 rfl rfl tv ?_))
 obtain ⟨g7, H⟩ := of_need H
 refine WL.yv (LJ.Y.idxRel enc_i64 a0.depth a2 tk rfl rfl rfl rfl rfl (nIn_ok g7)) rfl rfl rfl (WL.yv (LJ.Y.loadRel enc_i64 a0.depth a2 0 rfl rfl (fun _ => rfl) rfl (by kernel_rfl) rfl (by first | exact nIn_ok g7 | (have := nIn_ok g7; simpa only [List.length_set, List.length_map] using this))) rfl rfl rfl (Wr 3 tk sg0 rfl rfl tv (Wn (Qn (Wc rfl (fun h8 => ?_) (fun h8 => ?_))))))
 ·replace H := of_t H h8
  refine Ws (Wg (Wr 2 tk sg0 rfl rfl tv ?_))
  obtain ⟨x9, hx9, H⟩ := of_bind H
  refine Wf [1, 2] (depth_walk_wrong_s 0 1 2 rfl _ _ _ hx9) depth_walk_wrong_f rfl rfl ⟨rfl, rfl, rfl, tv⟩ rfl rfl rfl (Wn (Qn (Ws (Wg (Wr 1 tk sg0 rfl rfl tv (Wn (Qn (Wt (QB.r (QT.r ?_))))))))))
  cases H
  exact Ea rfl rfl rfl ⟨rfl, rfl, rfl, tv⟩
 replace H := of_f H h8
 refine Wk (Qb (Qn ?_))
 refine Ws (Wg (Wr 1 tk sg0 rfl rfl tv (Wn (Qn (Wt ?_)))))
 cases H
 exact Ea rfl rfl rfl ⟨rfl, rfl, rfl, tv⟩
theorem depth_walk_leads_s (n0 n1 n2 : Nat) (hn : nodupB [n0, n1, n2] = true) (a0 : T_depth_walk) (a1 : Int) (a2 : Int) (a3 : Int) {r : Bool × T_depth_walk} (H : depth_walk_leads a0 a1 a2 a3 = some r) : LJ.Spec Tryd.prog 55 [.ptr n0 0, .d (.int .i64 a1), .d (.int .i64 a2), .d (.int .i64 a3)] [(n0, .box 97 [.d (slT enc_api_Decl a0.p.Decls), .d (slT enc_sl_sl_api_Need a0.p.Waits), .d (slT enc_api_Func a0.p.Funcs), .d (slT enc_api_Ins a0.code), .own n1, .own n2, .d (.int .i64 a0.at_), .d (.int .i64 a0.err)]), (n1, .row 3 1 (a0.depth.map enc_i64)), (n2, .row 4 1 (a0.next.map enc_bool))] (.d (.bool r.1)) [(n1, .row 3 1 (r.2.depth.map enc_i64)), (n2, .row 4 1 (r.2.next.map enc_bool)), (n0, .box 97 [.d (slT enc_api_Decl r.2.p.Decls), .d (slT enc_sl_sl_api_Need r.2.p.Waits), .d (slT enc_api_Func r.2.p.Funcs), .d (slT enc_api_Ins r.2.code), .own n1, .own n2, .d (.int .i64 r.2.at_), .d (.int .i64 r.2.err)])] :=
 Spec.names [n0, n1, n2] hn rfl rfl (depth_walk_leads_0 a0 a1 a2 a3 H)
theorem depth_walk_leads_f : hasFunc Tryd.prog 55 Tryd.f55 := ⟨Tryd.func55, rfl, by kernel_rfl⟩

theorem slices_Index___bool_bool__0 (a0 : List Bool) (a1 : Bool) {r : Int} (H : slices_Index___bool_bool_ a0 a1 = some r) : LJ.Spec Tryd.prog 70 [.d (slT enc_bool a0), .d (.bool a1)] [] (.d (.int .i64 r)) [] := by
 refine LJ.Spec.code Tryd.func70 rfl 19 rfl rfl [] rfl fun w0 F0 S0 B0 => ?_
 unfold slices_Index___bool_bool_ at H
 refine Ws (Wg (Wr 1 tk sg0 rfl rfl tv (Wn (Qn (Ws (Ws (Wg (Wr 3 tk sg0 rfl rfl tv (Wn (Qn (Wb (Wl (ι := {x : Nat × Int // slices_Index___bool_bool__l2 a0 a1 x.1 x.2 = some r}) (fun x => [(0, .d (slT enc_bool a0)), (1, .d (.bool a1)), (7, .d (.int .i64 (a0.length : Int))), (8, .d (.int .i64 x.1.2))]) (fun x => []) (fun x => x.1.1) ⟨(fuel, 0), H⟩ (Less.mk' ⟨rfl, rfl, rfl, rfl, tv⟩ tv) fun x => ?_))))))))))))
 obtain ⟨⟨k2, s1⟩, H⟩ := x
 rcases k2 with _ | k2
 ·exact of_none H
 rw [slices_Index___bool_bool__l2] at H
 refine Ws (Wg (Wr 1 tk sg0 rfl rfl tv (Wn (Qn (Ws (Wc rfl (fun h3 => ?_) (fun h3 => ?_)))))))
 ·replace H := of_t H h3
  refine Wk (Qn (Ws (Wb (Ws (Wg (Wr 2 tk sg0 rfl rfl tv (Wn (Qn (Ws (Wg ?_))))))))))
  obtain ⟨g4, H⟩ := of_need H
  refine Wr 6 tk sg0 rfl rfl ⟨⟨(nIn_ok g4).1, (nIn_ok g4).2, rfl⟩, tv⟩ (Wn (Qn (Wc rfl (fun h5 => ?_) (fun h5 => ?_))))
  ·replace H := of_t H h5
   refine Ws (Wg (Wr 2 tk sg0 rfl rfl tv (Wn (Qn (Wt (QB.r (QT.r (QT.r (QB.r (QT.r ?_))))))))))
   cases H
   exact Ea rfl rfl rfl tv
  replace H := of_f H h5
  refine Wk (Qb (Qn ?_))
  exact Wg (Wr 2 tk sg0 rfl rfl tv (Wn (Qn (⟨⟨(k2, IntKind.i64.wrap (s1 + 1)), H⟩, Nat.lt_succ_self _, Less.mk' ⟨rfl, rfl, rfl, rfl, tv⟩ tv⟩))))
 replace H := of_f H h3
 refine WC.exit (Qx (Qx (Qh (Qn ?_))))
 refine Ws (Wg (Wr 1 tk sg0 rfl rfl tv (Wn (Qn (Wt ?_)))))
 cases H
 exact Ea rfl rfl rfl tv
theorem slices_Index___bool_bool__f : hasFunc Tryd.prog 70 Tryd.f70 := ⟨Tryd.func70, rfl, by kernel_rfl⟩

theorem depth_walk_least_0 (a0 : T_depth_walk) {r : Int} (H : depth_walk_least a0 = some r) : LJ.Spec Tryd.prog 56 [.ptr 0 0] [(0, .box 97 [.d (slT enc_api_Decl a0.p.Decls), .d (slT enc_sl_sl_api_Need a0.p.Waits), .d (slT enc_api_Func a0.p.Funcs), .d (slT enc_api_Ins a0.code), .own 1, .own 2, .d (.int .i64 a0.at_), .d (.int .i64 a0.err)]), (1, .row 3 1 (a0.depth.map enc_i64)), (2, .row 4 1 (a0.next.map enc_bool))] (.d (.int .i64 r)) [(1, .row 3 1 (a0.depth.map enc_i64)), (2, .row 4 1 (a0.next.map enc_bool)), (0, .box 97 [.d (slT enc_api_Decl a0.p.Decls), .d (slT enc_sl_sl_api_Need a0.p.Waits), .d (slT enc_api_Func a0.p.Funcs), .d (slT enc_api_Ins a0.code), .own 1, .own 2, .d (.int .i64 a0.at_), .d (.int .i64 a0.err)])] := by
 refine LJ.Spec.code Tryd.func56 rfl 8 rfl rfl [0] rfl fun w0 F0 S0 B0 => ?_
 unfold depth_walk_least at H
 refine Ws (Wg (Wr 1 tk sg0 rfl rfl tv (Wn (Qn (Ws (Wg (Wr 4 tk sg0 rfl rfl tv ?_)))))))
 obtain ⟨x1, hx1, H⟩ := of_bind H
 refine WL.callB (slices_Index___bool_bool__0 _ _ hx1) slices_Index___bool_bool__f rfl (.own enc_bool a0.next rfl rfl (.op rfl .nil)) rfl rfl rfl rfl (Wr 1 tk sg0 rfl rfl tv (Wn (Qn (Wt ?_))))
 cases H
 exact Ea rfl rfl rfl ⟨rfl, rfl, rfl, tv⟩
theorem depth_walk_least_s (n0 n1 n2 : Nat) (hn : nodupB [n0, n1, n2] = true) (a0 : T_depth_walk) {r : Int} (H : depth_walk_least a0 = some r) : LJ.Spec Tryd.prog 56 [.ptr n0 0] [(n0, .box 97 [.d (slT enc_api_Decl a0.p.Decls), .d (slT enc_sl_sl_api_Need a0.p.Waits), .d (slT enc_api_Func a0.p.Funcs), .d (slT enc_api_Ins a0.code), .own n1, .own n2, .d (.int .i64 a0.at_), .d (.int .i64 a0.err)]), (n1, .row 3 1 (a0.depth.map enc_i64)), (n2, .row 4 1 (a0.next.map enc_bool))] (.d (.int .i64 r)) [(n1, .row 3 1 (a0.depth.map enc_i64)), (n2, .row 4 1 (a0.next.map enc_bool)), (n0, .box 97 [.d (slT enc_api_Decl a0.p.Decls), .d (slT enc_sl_sl_api_Need a0.p.Waits), .d (slT enc_api_Func a0.p.Funcs), .d (slT enc_api_Ins a0.code), .own n1, .own n2, .d (.int .i64 a0.at_), .d (.int .i64 a0.err)])] :=
 Spec.names [n0, n1, n2] hn rfl rfl (depth_walk_least_0 a0 H)
theorem depth_walk_least_f : hasFunc Tryd.prog 56 Tryd.f56 := ⟨Tryd.func56, rfl, by kernel_rfl⟩

end Go.Proofs.YthgjdnknjofdjaaDoor.W
