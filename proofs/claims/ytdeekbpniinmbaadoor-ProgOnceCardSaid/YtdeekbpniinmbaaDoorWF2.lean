/- Each Go function comes to what its plain function gives, where that gives something. -/
import Derived.Test.YtdeekbpniinmbaaDoorPF
import Derived.Test.YtdeekbpniinmbaaDoorSq
import Derived.Test.YtdeekbpniinmbaaDoorWF1
import Derived.Test.YtdeekbpniinmbaaDoorXDef
import Derived.Test.YtdeekbpniinmbaaDoorXPan
import Derived.Test.YtdeekbpniinmbaaDoorXShelf
namespace Go.Proofs.YtdeekbpniinmbaaDoor.W
open Go Go.RowKit LJ
set_option linter.unusedVariables false
set_option linter.unusedSimpArgs false
set_option maxRecDepth 10000
theorem octet_Out_Num_0 (a0 : T_octet_Out) (a1 : Int) {r : T_octet_Out} (H : octet_Out_Num a0 a1 = some r) : LJ.Spec Tryd.prog 44 [.ptr 0 0, .d (.int .u64 a1)] [(0, .box 105 [.own 1]), (1, .row 5 1 (rowOf a0.b))] (.tup []) [(1, .row 5 1 (rowOf r.b)), (0, .box 105 [.own 1])] := by
 refine LJ.Spec.code Tryd.func44 rfl 33 rfl rfl [0] rfl fun w0 F0 S0 B0 => ?_
 unfold octet_Out_Num at H
 refine Ws (Ws (Wg (Wr 2 tk sg0 rfl rfl tv (Wn (Qn (Wc rfl (fun h => absurd h (by decide)) (fun h => ?_)))))))
 refine Wk (Qn ?_)
 obtain ⟨K1, hK1, H⟩ := of_withK H
 refine WC.cut (fun E m => ∃ s2 : Int × ByteArray, K1 s2 = some r ∧ LessW E m [(0, .ptr 0 0), (1, .d (.int .u64 s2.1))] [(0, .box 105 [.own 1]), (1, .row 5 1 (rowOf s2.2))]) ?_ ?_
 ·refine Wb (Wl (ι := {x : Nat × (Int × ByteArray) // octet_Out_Num_l4 K1 x.1 x.2 = some r}) (fun x => [(0, .ptr 0 0), (1, .d (.int .u64 x.1.2.1))]) (fun x => [(0, .box 105 [.own 1]), (1, .row 5 1 (rowOf x.1.2.2))]) (fun x => x.1.1) ⟨(fuel, (a1, a0.b)), H⟩ (Less.mk' ⟨rfl, rfl, tv⟩ ⟨rfl, rfl, tv⟩) fun x => ?_)
  obtain ⟨⟨k4, s3⟩, H⟩ := x
  rcases k4 with _ | k4
  ·exact of_none H
  rw [octet_Out_Num_l4] at H
  refine Ws (Ws (Wg (Wr 2 tk sg0 rfl rfl tv (Wn (Qn (Wc rfl (fun h5 => ?_) (fun h5 => ?_)))))))
  ·replace H := of_t H h5
   refine Wk (Qn (Wb (Ws (Wg (Wr 8 tk sg0 rfl rfl tv (We 116 tk ek eg0 rfl rfl rfl tv ?_))))))
   obtain ⟨g6, H⟩ := of_need H
   obtain ⟨g7, H⟩ := of_need H
   refine We 0 tk ek eg0 rfl rfl rfl (appOK_bytes rfl (nCap_ok g6)) (WL.row 1 (rowOf (s3.2.push (UInt8.ofNat (Go.bits .or .u8 (IntKind.u8.wrap s3.1) 128).toNat))) rfl (rowOf_one (nIn_ok g7).1 (nIn_ok g7).2) rfl (Wr 2 tk sg0 rfl rfl tv (We 0 tk ek eg0 rfl rfl rfl tv (Wn (Qn (Wg (Wr 3 tk sg0 rfl rfl tv (Wn (Qb (Qn ?_))))))))))
   exact ⟨⟨(k4, (s3.1 / 2 ^ min (7 : Int).toNat IntKind.u64.bits, s3.2.push (UInt8.ofNat (Go.bits .or .u8 (IntKind.u8.wrap s3.1) 128).toNat))), H⟩, Nat.lt_succ_self _, Less.mk' ⟨rfl, rfl, tv⟩ ⟨rfl, rfl, tv⟩⟩
  replace H := of_f H h5
  refine WC.exit (Qx (Qx (Qh (Qn ?_))))
  exact ⟨(s3.1, s3.2), H, LessW.mk' ⟨Ao rfl, Ao rfl, tv⟩ ⟨rfl, rfl, tv⟩⟩
 ·rintro E m ⟨s2, H, hl⟩
  refine WC.lessW hl ?_
  replace H := (hK1 _).symm.trans H
  try dsimp only at H
  refine Wg (Wr 7 tk sg0 rfl rfl tv (We 129 tk ek eg0 rfl rfl rfl tv ?_))
  obtain ⟨g8, H⟩ := of_need H
  obtain ⟨g9, H⟩ := of_need H
  refine We 0 tk ek eg0 rfl rfl rfl (appOK_bytes rfl (nCap_ok g8)) (WL.row 1 (rowOf (s2.2.push (UInt8.ofNat (IntKind.u8.wrap s2.1).toNat))) rfl (rowOf_one (nIn_ok g9).1 (nIn_ok g9).2) rfl (Wr 2 tk sg0 rfl rfl tv (We 0 tk ek eg0 rfl rfl rfl tv (Wn ?_))))
  cases H
  exact Ends.auton rfl rfl rfl ⟨rfl, rfl, tv⟩
theorem octet_Out_Num_s (n0 n1 : Nat) (hn : nodupB [n0, n1] = true) (a0 : T_octet_Out) (a1 : Int) {r : T_octet_Out} (H : octet_Out_Num a0 a1 = some r) : LJ.Spec Tryd.prog 44 [.ptr n0 0, .d (.int .u64 a1)] [(n0, .box 105 [.own n1]), (n1, .row 5 1 (rowOf a0.b))] (.tup []) [(n1, .row 5 1 (rowOf r.b)), (n0, .box 105 [.own n1])] :=
 Spec.names [n0, n1] hn rfl rfl (octet_Out_Num_0 a0 a1 H)
theorem octet_Out_Num_f : hasFunc Tryd.prog 44 Tryd.f44 := ⟨Tryd.func44, rfl, by kernel_rfl⟩

theorem octet_Out_Byte_0 (a0 : T_octet_Out) (a1 : Int) {r : T_octet_Out} (H : octet_Out_Byte a0 a1 = some r) : LJ.Spec Tryd.prog 45 [.ptr 0 0, .d (.int .i64 a1)] [(0, .box 105 [.own 1]), (1, .row 5 1 (rowOf a0.b))] (.tup []) [(1, .row 5 1 (rowOf r.b)), (0, .box 105 [.own 1])] := by
 refine LJ.Spec.code Tryd.func45 rfl 17 rfl rfl [0] rfl fun w0 F0 S0 B0 => ?_
 unfold octet_Out_Byte at H
 refine Ws (Wg (Wr 2 tk sg0 rfl rfl tv (Wn (Qn (Wc rfl (fun h => ?_) (fun h => absurd h (by decide)))))))
 refine Wg (Wr 7 tk sg0 rfl rfl tv (We 113 tk ek eg0 rfl rfl rfl tv ?_))
 obtain ⟨g1, H⟩ := of_need H
 obtain ⟨g2, H⟩ := of_need H
 refine We 0 tk ek eg0 rfl rfl rfl (appOK_bytes rfl (nCap_ok g1)) (WL.row 1 (rowOf (a0.b.push (UInt8.ofNat (IntKind.u8.wrap a1).toNat))) rfl (rowOf_one (nIn_ok g2).1 (nIn_ok g2).2) rfl (Wr 2 tk sg0 rfl rfl tv (We 0 tk ek eg0 rfl rfl rfl tv (Wn ?_))))
 cases H
 exact Ends.auton rfl rfl rfl ⟨rfl, rfl, tv⟩
theorem octet_Out_Byte_s (n0 n1 : Nat) (hn : nodupB [n0, n1] = true) (a0 : T_octet_Out) (a1 : Int) {r : T_octet_Out} (H : octet_Out_Byte a0 a1 = some r) : LJ.Spec Tryd.prog 45 [.ptr n0 0, .d (.int .i64 a1)] [(n0, .box 105 [.own n1]), (n1, .row 5 1 (rowOf a0.b))] (.tup []) [(n1, .row 5 1 (rowOf r.b)), (n0, .box 105 [.own n1])] :=
 Spec.names [n0, n1] hn rfl rfl (octet_Out_Byte_0 a0 a1 H)
theorem octet_Out_Byte_f : hasFunc Tryd.prog 45 Tryd.f45 := ⟨Tryd.func45, rfl, by kernel_rfl⟩

theorem octet_Out_Int_0 (a0 : T_octet_Out) (a1 : Int) {r : T_octet_Out} (H : octet_Out_Int a0 a1 = some r) : LJ.Spec Tryd.prog 46 [.ptr 0 0, .d (.int .i64 a1)] [(0, .box 105 [.own 1]), (1, .row 5 1 (rowOf a0.b))] (.tup []) [(1, .row 5 1 (rowOf r.b)), (0, .box 105 [.own 1])] := by
 refine LJ.Spec.code Tryd.func46 rfl 13 rfl rfl [0] rfl fun w0 F0 S0 B0 => ?_
 unfold octet_Out_Int at H
 refine Wg (Wr 8 tk sg0 rfl rfl tv ?_)
 obtain ⟨x1, hx1, H⟩ := of_bind H
 refine Wf [1] (octet_Out_Num_s 0 1 rfl _ _ hx1) octet_Out_Num_f rfl rfl ⟨rfl, rfl, tv⟩ rfl rfl rfl (Wn ?_)
 cases H
 exact Ends.auton rfl rfl rfl ⟨rfl, rfl, tv⟩
theorem octet_Out_Int_s (n0 n1 : Nat) (hn : nodupB [n0, n1] = true) (a0 : T_octet_Out) (a1 : Int) {r : T_octet_Out} (H : octet_Out_Int a0 a1 = some r) : LJ.Spec Tryd.prog 46 [.ptr n0 0, .d (.int .i64 a1)] [(n0, .box 105 [.own n1]), (n1, .row 5 1 (rowOf a0.b))] (.tup []) [(n1, .row 5 1 (rowOf r.b)), (n0, .box 105 [.own n1])] :=
 Spec.names [n0, n1] hn rfl rfl (octet_Out_Int_0 a0 a1 H)
theorem octet_Out_Int_f : hasFunc Tryd.prog 46 Tryd.f46 := ⟨Tryd.func46, rfl, by kernel_rfl⟩

theorem octet_Out_Done_0 (a0 : T_octet_Out) {r : ByteArray} (H : octet_Out_Done a0 = some r) : LJ.Spec Tryd.prog 47 [.ptr 0 0] [(0, .box 105 [.own 1]), (1, .row 5 1 (rowOf a0.b))] (.d (.str r)) [(1, .row 5 1 (rowOf a0.b)), (0, .box 105 [.own 1])] := by
 refine LJ.Spec.code Tryd.func47 rfl 10 rfl rfl [0] rfl fun w0 F0 S0 B0 => ?_
 unfold octet_Out_Done at H
 refine Ws (Wg (Wr 1 tk sg0 rfl rfl tv (Wn (Qn (Ws (Ws (Wg (Wr 2 tk sg0 rfl rfl tv (Wn (Qn (Wc rfl (fun h => absurd h (by decide)) (fun h => ?_))))))))))))
 refine Wk (Qn (Ws (Wg (Wr 4 tk sg0 rfl rfl tv (WL.ownStr a0.b tk rfl rfl rfl rfl (Wr 1 tk sg0 rfl rfl tv (Wn (Qn (Wt ?_)))))))))
 cases H
 exact Ea rfl rfl rfl ⟨rfl, rfl, tv⟩
theorem octet_Out_Done_s (n0 n1 : Nat) (hn : nodupB [n0, n1] = true) (a0 : T_octet_Out) {r : ByteArray} (H : octet_Out_Done a0 = some r) : LJ.Spec Tryd.prog 47 [.ptr n0 0] [(n0, .box 105 [.own n1]), (n1, .row 5 1 (rowOf a0.b))] (.d (.str r)) [(n1, .row 5 1 (rowOf a0.b)), (n0, .box 105 [.own n1])] :=
 Spec.names [n0, n1] hn rfl rfl (octet_Out_Done_0 a0 H)
theorem octet_Out_Done_f : hasFunc Tryd.prog 47 Tryd.f47 := ⟨Tryd.func47, rfl, by kernel_rfl⟩

theorem decl_Put_0 (a0 : List T_api_Decl) {r : ByteArray × Int} (H : decl_Put a0 = some r) : LJ.Spec Tryd.prog 20 [.d (slT enc_api_Decl a0)] [] (.tup [.d (.str r.1), .d (.int .i64 r.2)]) [] := by
 refine LJ.Spec.code Tryd.func20 rfl 69 rfl rfl [] rfl fun w0 F0 S0 B0 => ?_
 unfold decl_Put at H
 refine Ws (Wg (Wr 2 tk sg0 rfl rfl tv (Wn (Qn (Ws (Ws (Wg (Wr 1 tk sg0 rfl rfl tv ?_))))))))
 obtain ⟨x1, hx1, H⟩ := of_bind H
 refine Wf [] (decl_Check_0 _ hx1) decl_Check_f rfl rfl tv rfl rfl rfl (Wr 5 tk sg0 rfl rfl tv (Wn (Qn (Ws (Wg (Wr 2 tk sg0 rfl rfl tv (Wn (Qn (Wc rfl (fun h2 => ?_) (fun h2 => ?_))))))))))
 ·replace H := of_t H h2
  refine Ws (Wg (Wr 3 tk sg0 rfl rfl tv (Wn (Qn (Wt (QT.r ?_))))))
  cases H
  exact Ea rfl rfl rfl tv
 replace H := of_f H h2
 refine Wk (Qn (Ws (Wg (Wr 1 tk sg0 rfl rfl tv (We 118 tk ek eg0 rfl rfl rfl tv (Wr 1 tk sg0 rfl rfl tv (Wn (Qn (Ws (Wg (Wr 4 tk sg0 rfl rfl tv (WL.nilF 118 0 4180 5 1 rfl (WL.row 4180 (rowOf ByteArray.empty) rfl rfl rfl ?_)))))))))))))
 obtain ⟨x3, hx3, H⟩ := of_bind H
 refine Wf [4180] (octet_Out_Num_s 118 4180 rfl _ _ hx3) octet_Out_Num_f rfl rfl ⟨rfl, rfl, tv⟩ rfl rfl rfl (Wn (Qn (Ws (Ws (Wg (Wr 3 tk sg0 rfl rfl tv (Wn (Qn (Wb (Wl (ι := {x : Nat × (Int × ByteArray) // decl_Put_l5 a0 x.1 x.2 = some r}) (fun x => [(6, .ptr 118 0), (24, .d (slT enc_api_Decl a0)), (25, .d (.int .i64 (a0.length : Int))), (26, .d (.int .i64 x.1.2.1))]) (fun x => [(118, .box 105 [.own 4180]), (4180, .row 5 1 (rowOf x.1.2.2))]) (fun x => x.1.1) ⟨(fuel, (0, x3.b)), H⟩ (Less.mk' ⟨rfl, rfl, rfl, rfl, tv⟩ ⟨rfl, rfl, tv⟩) fun x => ?_))))))))))
 obtain ⟨⟨k5, s4⟩, H⟩ := x
 rcases k5 with _ | k5
 ·exact of_none H
 rw [decl_Put_l5] at H
 refine Ws (Wg (Wr 1 tk sg0 rfl rfl tv (Wn (Qn (Ws (Wc rfl (fun h6 => ?_) (fun h6 => ?_)))))))
 ·replace H := of_t H h6
  refine Wk (Qn (Ws (Wb (Ws (Wg ?_)))))
  obtain ⟨g7, H⟩ := of_need H
  refine Wr 2 tk sg0 rfl rfl ⟨⟨(nIn_ok g7).1, (nIn_ok g7).2, rfl⟩, tv⟩ (Wa 108 tk rfl rfl rfl (We 0 tk ek eg0 rfl rfl rfl tv (Wn (Qn (Ws (Wg (Wr 3 tk sg0 rfl rfl tv ?_)))))))
  obtain ⟨x8, hx8, H⟩ := of_bind H
  refine Wf [4180] (octet_Out_Byte_s 118 4180 rfl _ _ hx8) octet_Out_Byte_f rfl rfl ⟨rfl, rfl, tv⟩ rfl rfl rfl (Wn (Qn (Ws (Wg (Wr 2 tk sg0 rfl rfl tv (Wn (Qn (Wb (Ws (Wg (Wr 2 tk sg0 rfl rfl tv (Wn (Qn (Wc rfl (fun h9 => ?_) (fun h9 => ?_)))))))))))))))
  ·replace H := of_t H h9
   refine Ws (Wg (Wr 4 tk sg0 rfl rfl tv ?_))
   obtain ⟨x10, hx10, H⟩ := of_bind H
   refine Wf [4180] (octet_Out_Num_s 118 4180 rfl _ _ hx10) octet_Out_Num_f rfl rfl ⟨rfl, rfl, tv⟩ rfl rfl rfl (Wn (Qn (Wg (Wr 4 tk sg0 rfl rfl tv ?_))))
   obtain ⟨x11, hx11, H⟩ := of_bind H
   refine Wf [4180] (octet_Out_Num_s 118 4180 rfl _ _ hx11) octet_Out_Num_f rfl rfl ⟨rfl, rfl, tv⟩ rfl rfl rfl (Wn (Qb (Qb (Qn ?_))))
   exact Wg (Wr 2 tk sg0 rfl rfl tv (Wn (Qn (⟨⟨(k5, (IntKind.i64.wrap (s4.1 + 1), x11.b)), H⟩, Nat.lt_succ_self _, Less.mk' ⟨rfl, rfl, rfl, rfl, tv⟩ ⟨rfl, rfl, tv⟩⟩))))
  replace H := of_f H h9
  refine Ws (Wg (Wr 2 tk sg0 rfl rfl tv (Wn (Qn (Wc rfl (fun h12 => ?_) (fun h12 => ?_))))))
  ·replace H := of_t H h12
   refine Wg (Wr 4 tk sg0 rfl rfl tv ?_)
   obtain ⟨x13, hx13, H⟩ := of_bind H
   refine Wf [4180] (octet_Out_Num_s 118 4180 rfl _ _ hx13) octet_Out_Num_f rfl rfl ⟨rfl, rfl, tv⟩ rfl rfl rfl (Wn (Qb (Qb (Qn ?_))))
   exact Wg (Wr 2 tk sg0 rfl rfl tv (Wn (Qn (⟨⟨(k5, (IntKind.i64.wrap (s4.1 + 1), x13.b)), H⟩, Nat.lt_succ_self _, Less.mk' ⟨rfl, rfl, rfl, rfl, tv⟩ ⟨rfl, rfl, tv⟩⟩))))
  replace H := of_f H h12
  refine Ws (Wg (Wr 2 tk sg0 rfl rfl tv (Wn (Qn (Wc rfl (fun h14 => ?_) (fun h14 => ?_))))))
  ·replace H := of_t H h14
   refine Ws (Wg (Wr 3 tk sg0 rfl rfl tv ?_))
   obtain ⟨x15, hx15, H⟩ := of_bind H
   refine Wf [4180] (octet_Out_Int_s 118 4180 rfl _ _ hx15) octet_Out_Int_f rfl rfl ⟨rfl, rfl, tv⟩ rfl rfl rfl (Wn (Qn (Wg (Wr 4 tk sg0 rfl rfl tv ?_))))
   obtain ⟨x16, hx16, H⟩ := of_bind H
   refine Wf [4180] (octet_Out_Num_s 118 4180 rfl _ _ hx16) octet_Out_Num_f rfl rfl ⟨rfl, rfl, tv⟩ rfl rfl rfl (Wn (Qb (Qb (Qn ?_))))
   exact Wg (Wr 2 tk sg0 rfl rfl tv (Wn (Qn (⟨⟨(k5, (IntKind.i64.wrap (s4.1 + 1), x16.b)), H⟩, Nat.lt_succ_self _, Less.mk' ⟨rfl, rfl, rfl, rfl, tv⟩ ⟨rfl, rfl, tv⟩⟩))))
  replace H := of_f H h14
  refine Wk (Qb (Qb (Qn ?_)))
  exact Wg (Wr 2 tk sg0 rfl rfl tv (Wn (Qn (⟨⟨(k5, (IntKind.i64.wrap (s4.1 + 1), x8.b)), H⟩, Nat.lt_succ_self _, Less.mk' ⟨rfl, rfl, rfl, rfl, tv⟩ ⟨rfl, rfl, tv⟩⟩))))
 replace H := of_f H h6
 refine WC.exit (Qx (Qx (Qh (Qn ?_))))
 refine Ws (Wg (Wr 1 tk sg0 rfl rfl tv ?_))
 obtain ⟨x17, hx17, H⟩ := of_bind H
 refine Wf [4180] (octet_Out_Done_s 118 4180 rfl _ hx17) octet_Out_Done_f rfl rfl ⟨rfl, rfl, tv⟩ rfl rfl rfl (Wr 2 tk sg0 rfl rfl tv (Wn (Qn (Wt ?_))))
 cases H
 exact Ea rfl rfl rfl tv
theorem decl_Put_f : hasFunc Tryd.prog 20 Tryd.f20 := ⟨Tryd.func20, rfl, by kernel_rfl⟩

theorem prog_num_0 (a0 : Int) {r : ByteArray} (H : prog_num a0 = some r) : LJ.Spec Tryd.prog 22 [.d (.int .i64 a0)] [] (.d (.str r)) [] := by
 refine LJ.Spec.code Tryd.func22 rfl 12 rfl rfl [] rfl fun w0 F0 S0 B0 => ?_
 unfold prog_num at H
 refine Ws (Wg (Wr 1 tk sg0 rfl rfl tv (Wn (Qn (Ws (Wg (Wr 1 tk sg0 rfl rfl tv (We 105 tk ek eg0 rfl rfl rfl tv (Wr 1 tk sg0 rfl rfl tv (Wn (Qn (Ws (Wg (Wr 3 tk sg0 rfl rfl tv (WL.nilF 105 0 4050 5 1 rfl (WL.row 4050 (rowOf ByteArray.empty) rfl rfl rfl ?_))))))))))))))))
 obtain ⟨x1, hx1, H⟩ := of_bind H
 refine Wf [4050] (octet_Out_Num_s 105 4050 rfl _ _ hx1) octet_Out_Num_f rfl rfl ⟨rfl, rfl, tv⟩ rfl rfl rfl (Wn (Qn (Ws (Wg (Wr 1 tk sg0 rfl rfl tv ?_)))))
 obtain ⟨x2, hx2, H⟩ := of_bind H
 refine Wf [4050] (octet_Out_Done_s 105 4050 rfl _ hx2) octet_Out_Done_f rfl rfl ⟨rfl, rfl, tv⟩ rfl rfl rfl (Wr 1 tk sg0 rfl rfl tv (Wn (Qn (Wt ?_))))
 cases H
 exact Ea rfl rfl rfl tv
theorem prog_num_f : hasFunc Tryd.prog 22 Tryd.f22 := ⟨Tryd.func22, rfl, by kernel_rfl⟩

theorem strings_Builder_copyCheck_0 (a0 : T_strings_Builder) {r : T_strings_Builder} (H : strings_Builder_copyCheck a0 = some r) : LJ.Spec Tryd.prog 48 [.ptr 0 0] [(0, .box 59 [.optp a0.addr 0 0, .own 1]), (1, .row 5 1 (rowOf a0.buf))] (.tup []) [(1, .row 5 1 (rowOf r.buf)), (0, .box 59 [.optp r.addr 0 0, .own 1])] := by
 refine LJ.Spec.code Tryd.func48 rfl 20 rfl rfl [0] rfl fun w0 F0 S0 B0 => ?_
 unfold strings_Builder_copyCheck at H
 refine Ws (Wg (Wr 4 tk sg0 rfl rfl tv (WL.yv (LJ.Y.oeql rfl rfl rfl (by kernel_rfl)) rfl rfl rfl (Wn (Qn (Wc rfl (fun h1 => ?_) (fun h1 => ?_)))))))
 ·replace H := of_t H h1
  refine Wg (Wr 2 tk sg0 rfl rfl tv (WL.yv (LJ.Y.toUns 59 rfl rfl rfl rfl (by kernel_rfl) (by kernel_rfl) (by kernel_rfl)) rfl rfl rfl (WL.yv (LJ.Y.noEsc rfl rfl Tryd.func72 (by kernel_rfl) (by kernel_rfl) (by kernel_rfl) (by kernel_rfl)) rfl rfl rfl (WL.yv (LJ.Y.fromUns 59 rfl rfl rfl (by kernel_rfl) (by kernel_rfl) (by kernel_rfl) (by kernel_rfl)) rfl rfl rfl (Wr 2 tk sg0 rfl rfl tv (We 0 tk ek eg0 rfl rfl rfl tv (Wn ?_)))))))
  cases H
  exact Ends.auton rfl rfl rfl ⟨rfl, rfl, tv⟩
 replace H := of_f H h1
 refine Ws (Wg (Wr 5 tk sg0 rfl rfl tv (WL.yv (LJ.Y.oneq rfl rfl rfl (by kernel_rfl) (by kernel_rfl)) rfl rfl rfl (Wn (Qn (Wc rfl (fun h2 => ?_) (fun h2 => ?_)))))))
 ·replace H := of_t H h2
  exact of_none H
 replace H := of_f H h2
 refine Wk ?_
 cases H
 exact Ends.auton rfl rfl rfl ⟨rfl, rfl, tv⟩
theorem strings_Builder_copyCheck_s (n0 n1 : Nat) (hn : nodupB [n0, n1] = true) (a0 : T_strings_Builder) {r : T_strings_Builder} (H : strings_Builder_copyCheck a0 = some r) : LJ.Spec Tryd.prog 48 [.ptr n0 0] [(n0, .box 59 [.optp a0.addr n0 0, .own n1]), (n1, .row 5 1 (rowOf a0.buf))] (.tup []) [(n1, .row 5 1 (rowOf r.buf)), (n0, .box 59 [.optp r.addr n0 0, .own n1])] :=
 Spec.names [n0, n1] hn rfl rfl (strings_Builder_copyCheck_0 a0 H)
theorem strings_Builder_copyCheck_f : hasFunc Tryd.prog 48 Tryd.f48 := ⟨Tryd.func48, rfl, by kernel_rfl⟩

theorem strings_Builder_WriteString_0 (a0 : T_strings_Builder) (a1 : ByteArray) {r : Int × Unit × T_strings_Builder} (H : strings_Builder_WriteString a0 a1 = some r) : LJ.Spec Tryd.prog 21 [.ptr 0 0, .d (.str a1)] [(0, .box 59 [.optp a0.addr 0 0, .own 1]), (1, .row 5 1 (rowOf a0.buf))] (.tup [.d (.int .i64 r.1), .d (.nili)]) [(1, .row 5 1 (rowOf r.2.2.buf)), (0, .box 59 [.optp r.2.2.addr 0 0, .own 1])] := by
 refine LJ.Spec.code Tryd.func21 rfl 19 rfl rfl [0] rfl fun w0 F0 S0 B0 => ?_
 unfold strings_Builder_WriteString at H
 refine Ws (Wg (Wr 2 tk sg0 rfl rfl tv (Wn (Qn (Ws (Wg (Wr 1 tk sg0 rfl rfl tv ?_)))))))
 obtain ⟨x1, hx1, H⟩ := of_bind H
 refine Wf [1] (strings_Builder_copyCheck_s 0 1 rfl _ hx1) strings_Builder_copyCheck_f rfl rfl ⟨rfl, rfl, tv⟩ rfl rfl rfl (Wn (Qn (Ws (Wg (Wr 6 tk sg0 rfl rfl tv ?_)))))
 obtain ⟨g2, H⟩ := of_need H
 refine WL.apps tk eb_ok rfl rfl rfl (apps_ok (nCap_ok g2)) (WL.row 1 (rowOf (x1.buf ++ a1)) rfl (rowOf_append _ _).symm rfl (Wr 2 tk sg0 rfl rfl tv (We 0 tk ek eg0 rfl rfl rfl tv (Wn (Qn (Ws (Wg (Wr 4 tk sg0 rfl rfl tv (Wn (Qn (Wt ?_)))))))))))
 cases H
 exact Ea rfl rfl rfl ⟨rfl, rfl, tv⟩
theorem strings_Builder_WriteString_s (n0 n1 : Nat) (hn : nodupB [n0, n1] = true) (a0 : T_strings_Builder) (a1 : ByteArray) {r : Int × Unit × T_strings_Builder} (H : strings_Builder_WriteString a0 a1 = some r) : LJ.Spec Tryd.prog 21 [.ptr n0 0, .d (.str a1)] [(n0, .box 59 [.optp a0.addr n0 0, .own n1]), (n1, .row 5 1 (rowOf a0.buf))] (.tup [.d (.int .i64 r.1), .d (.nili)]) [(n1, .row 5 1 (rowOf r.2.2.buf)), (n0, .box 59 [.optp r.2.2.addr n0 0, .own n1])] :=
 Spec.names [n0, n1] hn rfl rfl (strings_Builder_WriteString_0 a0 a1 H)
theorem strings_Builder_WriteString_f : hasFunc Tryd.prog 21 Tryd.f21 := ⟨Tryd.func21, rfl, by kernel_rfl⟩

theorem need_Put_0 (a0 : List T_api_Decl) (a1 : List (List T_api_Need)) {r : ByteArray × Int} (H : need_Put a0 a1 = some r) : LJ.Spec Tryd.prog 23 [.d (slT enc_api_Decl a0), .d (slT enc_sl_api_Need a1)] [] (.tup [.d (.str r.1), .d (.int .i64 r.2)]) [] := by
 refine LJ.Spec.code Tryd.func23 rfl 63 rfl rfl [] rfl fun w0 F0 S0 B0 => ?_
 unfold need_Put at H
 refine Ws (Wg (Wr 2 tk sg0 rfl rfl tv (Wn (Qn (Ws (Ws (Wg (Wr 2 tk sg0 rfl rfl tv ?_))))))))
 obtain ⟨x1, hx1, H⟩ := of_bind H
 refine Wf [] (need_Check_0 _ _ hx1) need_Check_f rfl rfl tv rfl rfl rfl (Wr 1 tk sg0 rfl rfl tv (Wn (Qn (Ws (Wg (Wr 2 tk sg0 rfl rfl tv (Wn (Qn (Wc rfl (fun h2 => ?_) (fun h2 => ?_))))))))))
 ·replace H := of_t H h2
  refine Ws (Wg (Wr 3 tk sg0 rfl rfl tv (Wn (Qn (Wt (QT.r ?_))))))
  cases H
  exact Ea rfl rfl rfl tv
 replace H := of_f H h2
 refine Wk (Qn (Ws (Wg (Wr 1 tk sg0 rfl rfl tv (We 119 tk ek eg0 rfl rfl rfl tv (Wr 1 tk sg0 rfl rfl tv (Wn (Qn (Ws (Wg (Wr 4 tk sg0 rfl rfl tv (WL.nilF 119 0 4190 5 1 rfl (WL.row 4190 (rowOf ByteArray.empty) rfl rfl rfl ?_)))))))))))))
 obtain ⟨x3, hx3, H⟩ := of_bind H
 refine Wf [4190] (octet_Out_Num_s 119 4190 rfl _ _ hx3) octet_Out_Num_f rfl rfl ⟨rfl, rfl, tv⟩ rfl rfl rfl (Wn (Qn (Ws (Ws (Wg (Wr 3 tk sg0 rfl rfl tv (Wn (Qn (Wb (Wl (ι := {x : Nat × (Int × ByteArray) // need_Put_l5 a1 x.1 x.2 = some r}) (fun x => [(7, .ptr 119 0), (25, .d (slT enc_sl_api_Need a1)), (26, .d (.int .i64 (a1.length : Int))), (27, .d (.int .i64 x.1.2.1))]) (fun x => [(119, .box 105 [.own 4190]), (4190, .row 5 1 (rowOf x.1.2.2))]) (fun x => x.1.1) ⟨(fuel, (0, x3.b)), H⟩ (Less.mk' ⟨rfl, rfl, rfl, rfl, tv⟩ ⟨rfl, rfl, tv⟩) fun x => ?_))))))))))
 obtain ⟨⟨k5, s4⟩, H⟩ := x
 rcases k5 with _ | k5
 ·exact of_none H
 rw [need_Put_l5] at H
 refine Ws (Wg (Wr 1 tk sg0 rfl rfl tv (Wn (Qn (Ws (Wc rfl (fun h6 => ?_) (fun h6 => ?_)))))))
 ·replace H := of_t H h6
  refine Wk (Qn ?_)
  obtain ⟨K7, hK7, H⟩ := of_withK H
  refine WC.cut (fun E m => ∃ s8 : ByteArray, K7 s8 = some r ∧ LessW E m [(7, .ptr 119 0), (25, .d (slT enc_sl_api_Need a1)), (26, .d (.int .i64 (a1.length : Int))), (27, .d (.int .i64 s4.1))] [(119, .box 105 [.own 4190]), (4190, .row 5 1 (rowOf s8))]) ?_ ?_
  ·refine Wb (Ws (Wg ?_))
   obtain ⟨g9, H⟩ := of_need H
   refine Wr 3 tk sg0 rfl rfl ⟨⟨(nIn_ok g9).1, (nIn_ok g9).2, rfl⟩, tv⟩ (Wn (Qn (Ws (Wg (Wr 4 tk sg0 rfl rfl tv ?_)))))
   obtain ⟨x10, hx10, H⟩ := of_bind H
   refine Wf [4190] (octet_Out_Num_s 119 4190 rfl _ _ hx10) octet_Out_Num_f rfl rfl ⟨rfl, rfl, tv⟩ rfl rfl rfl (Wn (Qn (Ws (Wg (Wr 3 tk sg0 rfl rfl tv (Wn (Qn (Wb (Wl (ι := {x : Nat × (Int × ByteArray) // need_Put_l12 a1 s4 K7 x.1 x.2 = some r}) (fun x => [(7, .ptr 119 0), (25, .d (slT enc_sl_api_Need a1)), (26, .d (.int .i64 (a1.length : Int))), (27, .d (.int .i64 s4.1)), (36, .d (slT enc_api_Need (a1.getD s4.1.toNat default))), (37, .d (.int .i64 ((a1.getD s4.1.toNat default).length : Int))), (38, .d (.int .i64 x.1.2.1))]) (fun x => [(119, .box 105 [.own 4190]), (4190, .row 5 1 (rowOf x.1.2.2))]) (fun x => x.1.1) ⟨(fuel, (0, x10.b)), H⟩ (Less.mk' ⟨rfl, rfl, rfl, rfl, rfl, rfl, rfl, tv⟩ ⟨rfl, rfl, tv⟩) fun x => ?_)))))))))
   obtain ⟨⟨k12, s11⟩, H⟩ := x
   rcases k12 with _ | k12
   ·exact of_none H
   rw [need_Put_l12] at H
   refine Ws (Wg (Wr 1 tk sg0 rfl rfl tv (Wn (Qn (Ws (Wc rfl (fun h13 => ?_) (fun h13 => ?_)))))))
   ·replace H := of_t H h13
    refine Wk (Qn (Ws (Wb (Ws (Wg ?_)))))
    obtain ⟨g14, H⟩ := of_need H
    refine Wr 2 tk sg0 rfl rfl ⟨⟨(nIn_ok g14).1, (nIn_ok g14).2, rfl⟩, tv⟩ (Wa 111 tk rfl rfl rfl (We 0 tk ek eg0 rfl rfl rfl tv (Wn (Qn (Ws (Wg (Wr 3 tk sg0 rfl rfl tv ?_)))))))
    obtain ⟨x15, hx15, H⟩ := of_bind H
    refine Wf [4190] (octet_Out_Byte_s 119 4190 rfl _ _ hx15) octet_Out_Byte_f rfl rfl ⟨rfl, rfl, tv⟩ rfl rfl rfl (Wn (Qn (Ws (Wg (Wr 4 tk sg0 rfl rfl tv ?_)))))
    obtain ⟨x16, hx16, H⟩ := of_bind H
    refine Wf [4190] (octet_Out_Num_s 119 4190 rfl _ _ hx16) octet_Out_Num_f rfl rfl ⟨rfl, rfl, tv⟩ rfl rfl rfl (Wn (Qn (Ws (Wg (Wr 2 tk sg0 rfl rfl tv ?_)))))
    obtain ⟨x17, hx17, H⟩ := of_bind H
    refine Wf [] (need_counted_0 _ hx17) need_counted_f rfl rfl tv rfl rfl rfl (Wn (Qn (Wc rfl (fun h18 => ?_) (fun h18 => ?_))))
    ·replace H := of_t H h18
     refine Wg (Wr 4 tk sg0 rfl rfl tv ?_)
     obtain ⟨x19, hx19, H⟩ := of_bind H
     refine Wf [4190] (octet_Out_Num_s 119 4190 rfl _ _ hx19) octet_Out_Num_f rfl rfl ⟨rfl, rfl, tv⟩ rfl rfl rfl (Wn (Qb (Qn ?_)))
     exact Wg (Wr 2 tk sg0 rfl rfl tv (Wn (Qn (⟨⟨(k12, (IntKind.i64.wrap (s11.1 + 1), x19.b)), H⟩, Nat.lt_succ_self _, Less.mk' ⟨rfl, rfl, rfl, rfl, rfl, rfl, rfl, tv⟩ ⟨rfl, rfl, tv⟩⟩))))
    replace H := of_f H h18
    refine Wk (Qb (Qn ?_))
    exact Wg (Wr 2 tk sg0 rfl rfl tv (Wn (Qn (⟨⟨(k12, (IntKind.i64.wrap (s11.1 + 1), x16.b)), H⟩, Nat.lt_succ_self _, Less.mk' ⟨rfl, rfl, rfl, rfl, rfl, rfl, rfl, tv⟩ ⟨rfl, rfl, tv⟩⟩))))
   replace H := of_f H h13
   refine WC.exit (Qx (Qx (Qh (Qb (Qn ?_)))))
   exact ⟨s11.2, H, LessW.mk' ⟨Ao rfl, Ao rfl, Ao rfl, Ao rfl, tv⟩ ⟨rfl, rfl, tv⟩⟩
  ·rintro E m ⟨s8, H, hl⟩
   refine WC.lessW hl ?_
   replace H := (hK7 _).symm.trans H
   try dsimp only at H
   exact Wg (Wr 2 tk sg0 rfl rfl tv (Wn (Qn (⟨⟨(k5, (IntKind.i64.wrap (s4.1 + 1), s8)), H⟩, Nat.lt_succ_self _, Less.mk' ⟨rfl, rfl, rfl, rfl, tv⟩ ⟨rfl, rfl, tv⟩⟩))))
 replace H := of_f H h6
 refine WC.exit (Qx (Qx (Qh (Qn ?_))))
 refine Ws (Wg (Wr 1 tk sg0 rfl rfl tv ?_))
 obtain ⟨x20, hx20, H⟩ := of_bind H
 refine Wf [4190] (octet_Out_Done_s 119 4190 rfl _ hx20) octet_Out_Done_f rfl rfl ⟨rfl, rfl, tv⟩ rfl rfl rfl (Wr 2 tk sg0 rfl rfl tv (Wn (Qn (Wt ?_))))
 cases H
 exact Ea rfl rfl rfl tv
theorem need_Put_f : hasFunc Tryd.prog 23 Tryd.f23 := ⟨Tryd.func23, rfl, by kernel_rfl⟩

theorem ins_Put_0 (a0 : T_api_Ins) {r : ByteArray × Int} (H : ins_Put a0 = some r) : LJ.Spec Tryd.prog 24 [.d (.agg [.int .i64 a0.Op, .int .i64 a0.A, .int .i64 a0.B])] [] (.tup [.d (.str r.1), .d (.int .i64 r.2)]) [] := by
 refine LJ.Spec.code Tryd.func24 rfl 51 rfl rfl [] rfl fun w0 F0 S0 B0 => ?_
 unfold ins_Put at H
 refine Ws (Wg (We 101 tk ek eg0 rfl rfl rfl tv (Wr 2 tk sg0 rfl rfl tv (Wn (Qn (Ws (Ws (Wg (Wr 1 tk sg0 rfl rfl tv ?_)))))))))
 obtain ⟨x1, hx1, H⟩ := of_bind H
 refine Wf [] (ins_Check_0 _ hx1) ins_Check_f rfl rfl tv rfl rfl rfl (Wr 1 tk sg0 rfl rfl tv (Wn (Qn (Ws (Wg (Wr 2 tk sg0 rfl rfl tv (Wn (Qn (Wc rfl (fun h2 => ?_) (fun h2 => ?_))))))))))
 ·replace H := of_t H h2
  refine Ws (Wg (Wr 3 tk sg0 rfl rfl tv (Wn (Qn (Wt (QT.r ?_))))))
  cases H
  exact Ea rfl rfl rfl tv
 replace H := of_f H h2
 refine Wk (Qn (Ws ?_))
 obtain ⟨x4_4_1, hx4_4_1, H⟩ := of_bind H
 refine WC.heldF [(1, .ptr 101 0), (5, .ptr 115 0), (6, .d (.str x4_4_1)), (7, .ptr 107 0)] [(101, .box 51 [.d (.int .i64 a0.Op), .d (.int .i64 a0.A), .d (.int .i64 a0.B)]), (107, .box 110 [.d (.int .i64 a0.A), .d (.int .i64 a0.B)]), (115, .box 105 [.d (.nils)])] (.one 0 true (.one 2 true (.one 3 true (.one 5 true (.one 6 true (.one 7 true (.one 8 true (.one 9 true (.fork (.one 1 false (.fork (.one 4 false (.one 10 false (.one 11 true (.one 12 true (.one 13 false .done))))) (.one 10 false (.one 4 false (.one 11 true (.one 12 true (.one 13 false .done))))))) (.fork (.one 4 false (.fork (.one 1 false (.one 10 false (.one 11 true (.one 12 true (.one 13 false .done))))) (.one 10 false (.one 1 false (.one 11 true (.one 12 true (.one 13 false .done))))))) (.one 10 false (.fork (.one 1 false (.one 4 false (.one 11 true (.one 12 true (.one 13 false .done))))) (.one 4 false (.one 1 false (.one 11 true (.one 12 true (.one 13 false .done))))))))))))))))) [101] [101] rfl (by kernel_rfl) rfl (by kernel_rfl) rfl rfl (fun _ h => h) rfl rfl rfl (fun FK NK wK K => ?_) ?_
 ·refine Hr 7 tk rfl rfl rfl rfl tv (WH.yv rfl (LJ.Y.buildArr 2 [.int .i64 0, .int .i64 0] [.int .i64 a0.A, .int .i64 a0.B] (by kernel_rfl) (by kernel_rfl) rfl rfl rfl) rfl rfl rfl (WH.fork ?_ (WH.fork ?_ ?_)))
  ·refine He 115 tk ek rfl rfl rfl rfl tv rfl rfl (WH.fork ?_ ?_)
   ·exact WH.call [] rfl (op_Form_0 _ hx4_4_1) op_Form_f rfl rfl tv rfl rfl rfl rfl rfl (WH.allocZ 107 [.int .i64 0, .int .i64 0] rfl rfl (by kernel_rfl) rfl rfl rfl rfl rfl rfl (WH.mv rfl rfl rfl rfl rfl rfl rfl rfl rfl (Hr 1 tk rfl rfl rfl rfl tv (He 0 tk ek rfl rfl rfl rfl tv rfl rfl (Hn rfl (LessW.mk' ⟨Ao rfl, Ao rfl, Ao rfl, Ao rfl, tv⟩ ⟨rfl, rfl, rfl, tv⟩))))))
   ·exact WH.allocZ 107 [.int .i64 0, .int .i64 0] rfl rfl (by kernel_rfl) rfl rfl rfl rfl rfl rfl (WH.call [] rfl (op_Form_0 _ hx4_4_1) op_Form_f rfl rfl tv rfl rfl rfl rfl rfl (WH.mv rfl rfl rfl rfl rfl rfl rfl rfl rfl (Hr 1 tk rfl rfl rfl rfl tv (He 0 tk ek rfl rfl rfl rfl tv rfl rfl (Hn rfl (LessW.mk' ⟨Ao rfl, Ao rfl, Ao rfl, Ao rfl, tv⟩ ⟨rfl, rfl, rfl, tv⟩))))))
  ·refine WH.call [] rfl (op_Form_0 _ hx4_4_1) op_Form_f rfl rfl tv rfl rfl rfl rfl rfl (WH.fork ?_ ?_)
   ·exact He 115 tk ek rfl rfl rfl rfl tv rfl rfl (WH.allocZ 107 [.int .i64 0, .int .i64 0] rfl rfl (by kernel_rfl) rfl rfl rfl rfl rfl rfl (WH.mv rfl rfl rfl rfl rfl rfl rfl rfl rfl (Hr 1 tk rfl rfl rfl rfl tv (He 0 tk ek rfl rfl rfl rfl tv rfl rfl (Hn rfl (LessW.mk' ⟨Ao rfl, Ao rfl, Ao rfl, Ao rfl, tv⟩ ⟨rfl, rfl, rfl, tv⟩))))))
   ·exact WH.allocZ 107 [.int .i64 0, .int .i64 0] rfl rfl (by kernel_rfl) rfl rfl rfl rfl rfl rfl (He 115 tk ek rfl rfl rfl rfl tv rfl rfl (WH.mv rfl rfl rfl rfl rfl rfl rfl rfl rfl (Hr 1 tk rfl rfl rfl rfl tv (He 0 tk ek rfl rfl rfl rfl tv rfl rfl (Hn rfl (LessW.mk' ⟨Ao rfl, Ao rfl, Ao rfl, Ao rfl, tv⟩ ⟨rfl, rfl, rfl, tv⟩))))))
  ·refine WH.allocZ 107 [.int .i64 0, .int .i64 0] rfl rfl (by kernel_rfl) rfl rfl rfl rfl rfl rfl (WH.fork ?_ ?_)
   ·exact He 115 tk ek rfl rfl rfl rfl tv rfl rfl (WH.call [] rfl (op_Form_0 _ hx4_4_1) op_Form_f rfl rfl tv rfl rfl rfl rfl rfl (WH.mv rfl rfl rfl rfl rfl rfl rfl rfl rfl (Hr 1 tk rfl rfl rfl rfl tv (He 0 tk ek rfl rfl rfl rfl tv rfl rfl (Hn rfl (LessW.mk' ⟨Ao rfl, Ao rfl, Ao rfl, Ao rfl, tv⟩ ⟨rfl, rfl, rfl, tv⟩))))))
   ·exact WH.call [] rfl (op_Form_0 _ hx4_4_1) op_Form_f rfl rfl tv rfl rfl rfl rfl rfl (He 115 tk ek rfl rfl rfl rfl tv rfl rfl (WH.mv rfl rfl rfl rfl rfl rfl rfl rfl rfl (Hr 1 tk rfl rfl rfl rfl tv (He 0 tk ek rfl rfl rfl rfl tv rfl rfl (Hn rfl (LessW.mk' ⟨Ao rfl, Ao rfl, Ao rfl, Ao rfl, tv⟩ ⟨rfl, rfl, rfl, tv⟩))))))
 ·refine Qn (Ws (Wg (Wr 3 tk sg0 rfl rfl tv (WL.nilF 115 0 4150 5 1 rfl (WL.row 4150 (rowOf ByteArray.empty) rfl rfl rfl ?_)))))
  obtain ⟨x3, hx3, H⟩ := of_bind H
  refine Wf [4150] (octet_Out_Byte_s 115 4150 rfl _ _ hx3) octet_Out_Byte_f rfl rfl ⟨rfl, rfl, tv⟩ rfl rfl rfl (Wn (Qn (Ws (Ws (Wg (Wr 3 tk sg0 rfl rfl tv (Wn (Qn (Wb (Wl (ι := {x : Nat × (Int × ByteArray) // ins_Put_l5 a0 x4_4_1 x.1 x.2 = some r}) (fun x => [(5, .ptr 115 0), (6, .d (.str x4_4_1)), (7, .ptr 107 0), (29, .d (.int .i64 (x4_4_1.size : Int))), (30, .d (.int .i64 x.1.2.1))]) (fun x => [(107, .box 110 [.d (.int .i64 a0.A), .d (.int .i64 a0.B)]), (115, .box 105 [.own 4150]), (4150, .row 5 1 (rowOf x.1.2.2))]) (fun x => x.1.1) ⟨(fuel, (0, x3.b)), H⟩ (Less.mk' ⟨rfl, rfl, rfl, rfl, rfl, tv⟩ ⟨rfl, rfl, rfl, tv⟩) fun x => ?_))))))))))
  obtain ⟨⟨k5, s4⟩, H⟩ := x
  rcases k5 with _ | k5
  ·exact of_none H
  rw [ins_Put_l5] at H
  refine Ws (Wg (Wr 1 tk sg0 rfl rfl tv (Wn (Qn (Ws (Wc rfl (fun h6 => ?_) (fun h6 => ?_)))))))
  ·replace H := of_t H h6
   refine Wk (Qn (Ws (Wb (Ws (Wg (Wr 2 tk sg0 rfl rfl tv (Wn (Qn (Ws (Wg ?_))))))))))
   obtain ⟨g7, H⟩ := of_need H
   refine Wr 4 tk sg0 rfl rfl ⟨(nIn_ok g7), tv⟩ (Wn (Qn (Wc rfl (fun h8 => ?_) (fun h8 => ?_))))
   ·replace H := of_t H h8
    refine Wg (Wr 2 tk sg0 rfl rfl tv ?_)
    obtain ⟨g9, H⟩ := of_need H
    refine WL.yv (LJ.Y.idxPtrA 2 s4.1 (by kernel_rfl) rfl rfl rfl (nIn_ok g9)) rfl rfl rfl (WL.yv (LJ.Y.loadPtrA 2 0 (fun k => .int .i64 (([a0.A, a0.B] : List Int).getD k default)) s4.1 rfl rfl rfl (by kernel_rfl) rfl (nIn_ok g9)) rfl rfl rfl ?_)
    obtain ⟨x10, hx10, H⟩ := of_bind H
    refine Wf [4150] (octet_Out_Int_s 115 4150 rfl _ _ hx10) octet_Out_Int_f rfl rfl ⟨rfl, rfl, tv⟩ rfl rfl rfl (Wn (Qb (Qn ?_)))
    exact Wg (Wr 2 tk sg0 rfl rfl tv (Wn (Qn (⟨⟨(k5, (IntKind.i64.wrap (s4.1 + 1), x10.b)), H⟩, Nat.lt_succ_self _, Less.mk' ⟨rfl, rfl, rfl, rfl, rfl, tv⟩ ⟨rfl, rfl, rfl, tv⟩⟩))))
   replace H := of_f H h8
   refine Wg (Wr 2 tk sg0 rfl rfl tv ?_)
   obtain ⟨g11, H⟩ := of_need H
   refine WL.yv (LJ.Y.idxPtrA 2 s4.1 (by kernel_rfl) rfl rfl rfl (nIn_ok g11)) rfl rfl rfl (WL.yv (LJ.Y.loadPtrA 2 0 (fun k => .int .i64 (([a0.A, a0.B] : List Int).getD k default)) s4.1 rfl rfl rfl (by kernel_rfl) rfl (nIn_ok g11)) rfl rfl rfl (Wr 1 tk sg0 rfl rfl tv ?_))
   obtain ⟨x12, hx12, H⟩ := of_bind H
   refine Wf [4150] (octet_Out_Num_s 115 4150 rfl _ _ hx12) octet_Out_Num_f rfl rfl ⟨rfl, rfl, tv⟩ rfl rfl rfl (Wn (Qb (Qn ?_)))
   exact Wg (Wr 2 tk sg0 rfl rfl tv (Wn (Qn (⟨⟨(k5, (IntKind.i64.wrap (s4.1 + 1), x12.b)), H⟩, Nat.lt_succ_self _, Less.mk' ⟨rfl, rfl, rfl, rfl, rfl, tv⟩ ⟨rfl, rfl, rfl, tv⟩⟩))))
  replace H := of_f H h6
  refine WC.exit (Qx (Qx (Qh (Qn ?_))))
  refine Ws (Wg (Wr 1 tk sg0 rfl rfl tv ?_))
  obtain ⟨x13, hx13, H⟩ := of_bind H
  refine Wf [4150] (octet_Out_Done_s 115 4150 rfl _ hx13) octet_Out_Done_f rfl rfl ⟨rfl, rfl, tv⟩ rfl rfl rfl (Wr 2 tk sg0 rfl rfl tv (Wn (Qn (Wt ?_))))
  cases H
  exact Ea rfl rfl rfl tv
theorem ins_Put_f : hasFunc Tryd.prog 24 Tryd.f24 := ⟨Tryd.func24, rfl, by kernel_rfl⟩

def ρb : Go.Shelf.Ren := ⟨fun n => cond (Nat.beq n 169) 25 0, fun n => cond (Nat.beq n 127) 111 (cond (Nat.beq n 72) 59 (cond (Nat.beq n 70) 56 (cond (Nat.beq n 37) 57 (cond (Nat.beq n 9) 9 (cond (Nat.beq n 5) 5 (cond (Nat.beq n 3) 3 (cond (Nat.beq n 0) 0 (0)))))))), fun _ => 0⟩
set_option maxRecDepth 100000 in
theorem lays169 : Go.Proofs.Lays.n169 Tryd.prog ρb := by
 constructor <;> first | kernel_rfl | (intro w; kernel_rfl) | (intro w; rfl)
theorem ext169 : Go.Proofs.Builder.Extra Tryd.prog ρb := by
 constructor <;> first | kernel_rfl | (intro w; kernel_rfl) | (intro w; rfl) | decide | (constructor <;> kernel_rfl)
theorem strings_Builder_String_0 (a0 : T_strings_Builder) {r : ByteArray} (H : strings_Builder_String a0 = some r) : LJ.Spec Tryd.prog 25 [.ptr 0 0] [(0, .box 59 [.optp a0.addr 0 0, .own 1]), (1, .row 5 1 (rowOf a0.buf))] (.d (.str r)) [] := by
 unfold strings_Builder_String at H
 cases H
 exact Spec.bldAny lays169 ext169
theorem strings_Builder_String_s (n0 n1 : Nat) (hn : nodupB [n0, n1] = true) (a0 : T_strings_Builder) {r : ByteArray} (H : strings_Builder_String a0 = some r) : LJ.Spec Tryd.prog 25 [.ptr n0 0] [(n0, .box 59 [.optp a0.addr n0 0, .own n1]), (n1, .row 5 1 (rowOf a0.buf))] (.d (.str r)) [] :=
 Spec.names [n0, n1] hn rfl rfl (strings_Builder_String_0 a0 H)
theorem strings_Builder_String_f : hasFunc Tryd.prog 25 Tryd.f25 := ⟨Tryd.func25, rfl, by kernel_rfl⟩

theorem prog_Put_0 (a0 : T_api_Program) {r : ByteArray × Int} (H : prog_Put a0 = some r) : LJ.Spec Tryd.prog 9 [.d (.agg [slT enc_api_Decl a0.Decls, slT enc_sl_sl_api_Need a0.Waits, slT enc_api_Func a0.Funcs])] [] (.tup [.d (.str r.1), .d (.int .i64 r.2)]) [] := by
 refine LJ.Spec.code Tryd.func9 rfl 96 rfl rfl [] rfl fun w0 F0 S0 B0 => ?_
 unfold prog_Put at H
 refine Ws (Wg (We 101 tk ek eg0 rfl rfl rfl tv (Wr 2 tk sg0 rfl rfl tv (Wn (Qn (Ws (Ws (Wg (Wr 1 tk sg0 rfl rfl tv ?_)))))))))
 obtain ⟨x1, hx1, H⟩ := of_bind H
 refine Wf [] (prog_Check_0 _ hx1) prog_Check_f rfl rfl tv rfl rfl rfl (Wr 1 tk sg0 rfl rfl tv (Wn (Qn (Ws (Wg (Wr 2 tk sg0 rfl rfl tv (Wn (Qn (Wc rfl (fun h2 => ?_) (fun h2 => ?_))))))))))
 ·replace H := of_t H h2
  refine Ws (Wg (Wr 3 tk sg0 rfl rfl tv (Wn (Qn (Wt (QT.r ?_))))))
  cases H
  exact Ea rfl rfl rfl tv
 replace H := of_f H h2
 refine Wk (Qn (Ws (Wg (Wa 105 tk rfl rfl rfl (WL.nilP 105 0 105 rfl (WL.nilF 105 1 4051 5 1 rfl (WL.row 4051 (rowOf ByteArray.empty) rfl rfl rfl (Wn (Qn (Ws (Wg (Wr 2 tk sg0 rfl rfl tv ?_))))))))))))
 obtain ⟨x3, hx3, H⟩ := of_bind H
 refine Wf [] (decl_Put_0 _ hx3) decl_Put_f rfl rfl tv rfl rfl rfl (Wr 5 tk sg0 rfl rfl tv (Wn (Qn (Ws (Wg ?_)))))
 obtain ⟨g4, H⟩ := of_need H
 refine Wr 5 tk sg0 rfl rfl ⟨(nStr_ok g4), tv⟩ ?_
 obtain ⟨x5, hx5, H⟩ := of_bind H
 refine Wf [] (prog_num_0 _ hx5) prog_num_f rfl rfl tv rfl rfl rfl ?_
 obtain ⟨g6, H⟩ := of_need H
 refine Wr 1 tk sg0 rfl rfl ⟨(nStr_ok g6), tv⟩ ?_
 obtain ⟨x7, hx7, H⟩ := of_bind H
 refine Wf [4051] (strings_Builder_WriteString_s 105 4051 rfl _ _ hx7) strings_Builder_WriteString_f rfl rfl ⟨rfl, rfl, tv⟩ rfl rfl rfl (Wn (Qn (Ws (Ws (Wg (Wr 4 tk sg0 rfl rfl tv (Wn (Qn (Wb (Wl (ι := {x : Nat × (Int × Bool × ByteArray) // prog_Put_l9 a0 x.1 x.2 = some r}) (fun x => [(1, .ptr 101 0), (5, .ptr 105 0), (38, .d (slT enc_sl_sl_api_Need a0.Waits)), (39, .d (.int .i64 (a0.Waits.length : Int))), (40, .d (.int .i64 x.1.2.1))]) (fun x => [(101, .box 26 [.d (slT enc_api_Decl a0.Decls), .d (slT enc_sl_sl_api_Need a0.Waits), .d (slT enc_api_Func a0.Funcs)]), (105, .box 59 [.optp x.1.2.2.1 105 0, .own 4051]), (4051, .row 5 1 (rowOf x.1.2.2.2))]) (fun x => x.1.1) ⟨(fuel, (0, x7.2.2.addr, x7.2.2.buf)), H⟩ (Less.mk' ⟨rfl, rfl, rfl, rfl, rfl, tv⟩ ⟨rfl, rfl, rfl, tv⟩) fun x => ?_))))))))))
 obtain ⟨⟨k9, s8⟩, H⟩ := x
 rcases k9 with _ | k9
 ·exact of_none H
 rw [prog_Put_l9] at H
 refine Ws (Wg (Wr 1 tk sg0 rfl rfl tv (Wn (Qn (Ws (Wc rfl (fun h10 => ?_) (fun h10 => ?_)))))))
 ·replace H := of_t H h10
  refine Wk (Qn (Ws (Wb (Ws (Wg ?_)))))
  obtain ⟨g11, H⟩ := of_need H
  refine Wr 3 tk sg0 rfl rfl ⟨⟨(nIn_ok g11).1, (nIn_ok g11).2, rfl⟩, tv⟩ (Wn (Qn (Ws (Wg (Wr 3 tk sg0 rfl rfl tv ?_)))))
  obtain ⟨x12, hx12, H⟩ := of_bind H
  refine Wf [] (need_Put_0 _ _ hx12) need_Put_f rfl rfl tv rfl rfl rfl (Wr 5 tk sg0 rfl rfl tv (Wn (Qn (Wg (Wr 1 tk sg0 rfl rfl tv ?_)))))
  obtain ⟨x13, hx13, H⟩ := of_bind H
  refine Wf [4051] (strings_Builder_WriteString_s 105 4051 rfl _ _ hx13) strings_Builder_WriteString_f rfl rfl ⟨rfl, rfl, tv⟩ rfl rfl rfl (Wn (Qb (Qn ?_)))
  exact Wg (Wr 2 tk sg0 rfl rfl tv (Wn (Qn (⟨⟨(k9, (IntKind.i64.wrap (s8.1 + 1), x13.2.2.addr, x13.2.2.buf)), H⟩, Nat.lt_succ_self _, Less.mk' ⟨rfl, rfl, rfl, rfl, rfl, tv⟩ ⟨rfl, rfl, rfl, tv⟩⟩))))
 replace H := of_f H h10
 refine WC.exit (Qx (Qx (Qh (Qn ?_))))
 refine Ws (Wg (Wr 3 tk sg0 rfl rfl tv ?_))
 obtain ⟨x14, hx14, H⟩ := of_bind H
 refine Wf [] (prog_num_0 _ hx14) prog_num_f rfl rfl tv rfl rfl rfl ?_
 obtain ⟨x15, hx15, H⟩ := of_bind H
 refine Wf [4051] (strings_Builder_WriteString_s 105 4051 rfl _ _ hx15) strings_Builder_WriteString_f rfl rfl ⟨rfl, rfl, tv⟩ rfl rfl rfl (Wn (Qn (Ws (Ws (Wg (Wr 4 tk sg0 rfl rfl tv (Wn (Qn (Wb (Wl (ι := {x : Nat × (Int × Bool × ByteArray) // prog_Put_l17 a0 x.1 x.2 = some r}) (fun x => [(5, .ptr 105 0), (60, .d (slT enc_api_Func a0.Funcs)), (61, .d (.int .i64 (a0.Funcs.length : Int))), (62, .d (.int .i64 x.1.2.1))]) (fun x => [(105, .box 59 [.optp x.1.2.2.1 105 0, .own 4051]), (4051, .row 5 1 (rowOf x.1.2.2.2))]) (fun x => x.1.1) ⟨(fuel, (0, x15.2.2.addr, x15.2.2.buf)), H⟩ (Less.mk' ⟨rfl, rfl, rfl, rfl, tv⟩ ⟨rfl, rfl, tv⟩) fun x => ?_))))))))))
 obtain ⟨⟨k17, s16⟩, H⟩ := x
 rcases k17 with _ | k17
 ·exact of_none H
 rw [prog_Put_l17] at H
 refine Ws (Wg (Wr 1 tk sg0 rfl rfl tv (Wn (Qn (Ws (Wc rfl (fun h18 => ?_) (fun h18 => ?_)))))))
 ·replace H := of_t H h18
  refine Wk (Qn ?_)
  obtain ⟨K19, hK19, H⟩ := of_withK H
  refine WC.cut (fun E m => ∃ s20 : Bool × ByteArray, K19 s20 = some r ∧ LessW E m [(5, .ptr 105 0), (60, .d (slT enc_api_Func a0.Funcs)), (61, .d (.int .i64 (a0.Funcs.length : Int))), (62, .d (.int .i64 s16.1))] [(105, .box 59 [.optp s20.1 105 0, .own 4051]), (4051, .row 5 1 (rowOf s20.2))]) ?_ ?_
  ·refine Wb (Ws (Wg ?_))
   obtain ⟨g21, H⟩ := of_need H
   refine Wr 2 tk sg0 rfl rfl ⟨⟨(nIn_ok g21).1, (nIn_ok g21).2, rfl⟩, tv⟩ (Wa 113 tk rfl rfl rfl (We 0 tk ek eg0 rfl rfl rfl tv (Wn (Qn (Ws (Hp (.one 0 true (.one 1 true (.one 3 true (.one 4 true (.one 7 true (.one 8 true (.one 9 true (.one 2 false (.one 5 false (.one 6 true (.one 10 false (.one 11 true (.one 12 false .done))))))))))))) [105, 113] [113] rfl (by kernel_rfl) rfl (by kernel_rfl) rfl rfl (fun _ h => h) rfl rfl rfl (fun _ _ _ h => h) fun FK NK wK K => (Hr 7 tk rfl rfl rfl rfl tv ?_)))))))
   obtain ⟨x22, hx22, H⟩ := of_bind H
   refine WH.call [] rfl (prog_num_0 _ hx22) prog_num_f rfl rfl tv rfl rfl rfl rfl rfl ?_
   obtain ⟨x23, hx23, H⟩ := of_bind H
   refine WH.call [] rfl (prog_num_0 _ hx23) prog_num_f rfl rfl tv rfl rfl rfl rfl rfl ?_
   obtain ⟨g24, H⟩ := of_need H
   refine Hr 1 tk rfl rfl rfl rfl ⟨(nStr_ok g24), tv⟩ ?_
   obtain ⟨x25, hx25, H⟩ := of_bind H
   refine WH.call [] rfl (prog_num_0 _ hx25) prog_num_f rfl rfl tv rfl rfl rfl rfl rfl ?_
   obtain ⟨g26, H⟩ := of_need H
   refine Hr 1 tk rfl rfl rfl rfl ⟨(nStr_ok g26), tv⟩ ?_
   obtain ⟨x27, hx27, H⟩ := of_bind H
   refine WH.call [4051] rfl (strings_Builder_WriteString_s 105 4051 rfl _ _ hx27) strings_Builder_WriteString_f rfl rfl ⟨rfl, rfl, tv⟩ rfl rfl rfl rfl rfl (WH.nil rfl (Qn (Ws (Wg (Wr 4 tk sg0 rfl rfl tv (Wn (Qn (Wb (Wl (ι := {x : Nat × (Int × Bool × ByteArray) // prog_Put_l29 a0 s16 K19 x.1 x.2 = some r}) (fun x => [(5, .ptr 105 0), (60, .d (slT enc_api_Func a0.Funcs)), (61, .d (.int .i64 (a0.Funcs.length : Int))), (62, .d (.int .i64 s16.1)), (80, .d (slT enc_api_Ins ((a0.Funcs.getD s16.1.toNat default).Code))), (81, .d (.int .i64 (((a0.Funcs.getD s16.1.toNat default).Code).length : Int))), (82, .d (.int .i64 x.1.2.1))]) (fun x => [(105, .box 59 [.optp x.1.2.2.1 105 0, .own 4051]), (4051, .row 5 1 (rowOf x.1.2.2.2))]) (fun x => x.1.1) ⟨(fuel, (0, x27.2.2.addr, x27.2.2.buf)), H⟩ (Less.mk' ⟨rfl, rfl, rfl, rfl, rfl, rfl, rfl, tv⟩ ⟨rfl, rfl, tv⟩) fun x => ?_)))))))))
   obtain ⟨⟨k29, s28⟩, H⟩ := x
   rcases k29 with _ | k29
   ·exact of_none H
   rw [prog_Put_l29] at H
   refine Ws (Wg (Wr 1 tk sg0 rfl rfl tv (Wn (Qn (Ws (Wc rfl (fun h30 => ?_) (fun h30 => ?_)))))))
   ·replace H := of_t H h30
    refine Wk (Qn (Ws (Wb (Ws (Wg ?_)))))
    obtain ⟨g31, H⟩ := of_need H
    refine Wr 2 tk sg0 rfl rfl ⟨⟨(nIn_ok g31).1, (nIn_ok g31).2, rfl⟩, tv⟩ (Wa 115 tk rfl rfl rfl (We 0 tk ek eg0 rfl rfl rfl tv (Wn (Qn (Ws (Wg (Wr 1 tk sg0 rfl rfl tv ?_)))))))
    obtain ⟨x32, hx32, H⟩ := of_bind H
    refine Wf [] (ins_Put_0 _ hx32) ins_Put_f rfl rfl tv rfl rfl rfl (Wr 5 tk sg0 rfl rfl tv (Wn (Qn (Wg (Wr 1 tk sg0 rfl rfl tv ?_)))))
    obtain ⟨x33, hx33, H⟩ := of_bind H
    refine Wf [4051] (strings_Builder_WriteString_s 105 4051 rfl _ _ hx33) strings_Builder_WriteString_f rfl rfl ⟨rfl, rfl, tv⟩ rfl rfl rfl (Wn (Qb (Qn ?_)))
    exact Wg (Wr 2 tk sg0 rfl rfl tv (Wn (Qn (⟨⟨(k29, (IntKind.i64.wrap (s28.1 + 1), x33.2.2.addr, x33.2.2.buf)), H⟩, Nat.lt_succ_self _, Less.mk' ⟨rfl, rfl, rfl, rfl, rfl, rfl, rfl, tv⟩ ⟨rfl, rfl, tv⟩⟩))))
   replace H := of_f H h30
   refine WC.exit (Qx (Qx (Qh (Qb (Qn ?_)))))
   exact ⟨(s28.2.1, s28.2.2), H, LessW.mk' ⟨Ao rfl, Ao rfl, Ao rfl, Ao rfl, tv⟩ ⟨rfl, rfl, tv⟩⟩
  ·rintro E m ⟨s20, H, hl⟩
   refine WC.lessW hl ?_
   replace H := (hK19 _).symm.trans H
   try dsimp only at H
   exact Wg (Wr 2 tk sg0 rfl rfl tv (Wn (Qn (⟨⟨(k17, (IntKind.i64.wrap (s16.1 + 1), s20.1, s20.2)), H⟩, Nat.lt_succ_self _, Less.mk' ⟨rfl, rfl, rfl, rfl, tv⟩ ⟨rfl, rfl, tv⟩⟩))))
 replace H := of_f H h18
 refine WC.exit (Qx (Qx (Qh (Qn ?_))))
 refine Ws (Wg ?_)
 obtain ⟨x34, hx34, H⟩ := of_bind H
 refine Wf [] (strings_Builder_String_s 105 4051 rfl _ hx34) strings_Builder_String_f rfl rfl ⟨rfl, rfl, tv⟩ rfl rfl rfl (Wr 2 tk sg0 rfl rfl tv (Wn (Qn (Wt ?_))))
 cases H
 exact Ea rfl rfl rfl tv
theorem prog_Put_f : hasFunc Tryd.prog 9 Tryd.f9 := ⟨Tryd.func9, rfl, by kernel_rfl⟩

theorem ref01_Num_0 (a0 : Int) {r : ByteArray} (H : ref01_Num a0 = some r) : LJ.Spec Tryd.prog 30 [.d (.int .u64 a0)] [] (.d (.str r)) [] := by
 refine LJ.Spec.code Tryd.func30 rfl 22 rfl rfl [] rfl fun w0 F0 S0 B0 => ?_
 unfold ref01_Num at H
 refine Ws (Wg (Wr 1 tk sg0 rfl rfl tv (Wn (Qn (Ws (Wg (Wr 1 tk sg0 rfl rfl tv (Wn (Qn (Ws (Wb (Wl (ι := {x : Nat × (Int × ByteArray) // ref01_Num_l2 x.1 x.2 = some r}) (fun x => [(0, .d (.int .u64 x.1.2.1)), (3, .d (.str x.1.2.2))]) (fun x => []) (fun x => x.1.1) ⟨(fuel, (a0, ByteArray.empty)), H⟩ (Less.mk' ⟨rfl, rfl, tv⟩ tv) fun x => ?_))))))))))))
 obtain ⟨⟨k2, s1⟩, H⟩ := x
 rcases k2 with _ | k2
 ·exact of_none H
 rw [ref01_Num_l2] at H
 refine Ws (Ws (Wg (Wr 2 tk sg0 rfl rfl tv (Wn (Qn (Wc rfl (fun h3 => ?_) (fun h3 => ?_)))))))
 ·replace H := of_t H h3
  refine Wk (Qn (Wb (Ws (Wg (Wr 5 tk sg0 rfl rfl tv (We 111 tk ek eg0 rfl rfl rfl tv ?_))))))
  obtain ⟨g4, H⟩ := of_need H
  refine WL.row 111 (rowOf (ByteArray.empty.push (UInt8.ofNat (IntKind.u8.wrap (IntKind.u64.wrap ((Int.tmod s1.1 128) + 128))).toNat))) rfl (rowOf_one (s := .empty) (nIn_ok g4).1 (nIn_ok g4).2) rfl (WL.ownStr (ByteArray.empty.push (UInt8.ofNat (IntKind.u8.wrap (IntKind.u64.wrap ((Int.tmod s1.1 128) + 128))).toNat)) tk rfl rfl rfl rfl ?_)
  obtain ⟨g5, H⟩ := of_need H
  refine Wr 2 tk sg0 rfl rfl ⟨(nStr_ok g5), tv⟩ (Wn (Qn (Wg (Wr 3 tk sg0 rfl rfl tv (Wn (Qb (Qn ?_)))))))
  exact ⟨⟨(k2, (IntKind.u64.wrap (Int.tdiv s1.1 128), s1.2 ++ (ByteArray.empty.push (UInt8.ofNat (IntKind.u8.wrap (IntKind.u64.wrap ((Int.tmod s1.1 128) + 128))).toNat)))), H⟩, Nat.lt_succ_self _, Less.mk' ⟨rfl, rfl, tv⟩ tv⟩
 replace H := of_f H h3
 refine WC.exit (Qx (Qx (Qh (Qn ?_))))
 refine Ws (Wg (Wr 3 tk sg0 rfl rfl tv (We 119 tk ek eg0 rfl rfl rfl tv ?_)))
 obtain ⟨g6, H⟩ := of_need H
 refine WL.row 119 (rowOf (ByteArray.empty.push (UInt8.ofNat (IntKind.u8.wrap s1.1).toNat))) rfl (rowOf_one (s := .empty) (nIn_ok g6).1 (nIn_ok g6).2) rfl (WL.ownStr (ByteArray.empty.push (UInt8.ofNat (IntKind.u8.wrap s1.1).toNat)) tk rfl rfl rfl rfl ?_)
 obtain ⟨g7, H⟩ := of_need H
 refine Wr 2 tk sg0 rfl rfl ⟨(nStr_ok g7), tv⟩ (Wn (Qn (Wt ?_)))
 cases H
 exact Ea rfl rfl rfl tv
theorem ref01_Num_f : hasFunc Tryd.prog 30 Tryd.f30 := ⟨Tryd.func30, rfl, by kernel_rfl⟩

theorem ref01_Int_0 (a0 : Int) {r : ByteArray} (H : ref01_Int a0 = some r) : LJ.Spec Tryd.prog 54 [.d (.int .i64 a0)] [] (.d (.str r)) [] := by
 refine LJ.Spec.code Tryd.func54 rfl 16 rfl rfl [] rfl fun w0 F0 S0 B0 => ?_
 unfold ref01_Int at H
 refine Ws (Wg (Wr 1 tk sg0 rfl rfl tv (Wn (Qn (Ws (Ws (Wg (Wr 2 tk sg0 rfl rfl tv (Wn (Qn (Wc rfl (fun h1 => ?_) (fun h1 => ?_))))))))))))
 ·replace H := of_t H h1
  refine Ws (Wg (Wr 3 tk sg0 rfl rfl tv ?_))
  obtain ⟨x2, hx2, H⟩ := of_bind H
  refine Wf [] (ref01_Num_0 _ hx2) ref01_Num_f rfl rfl tv rfl rfl rfl (Wr 1 tk sg0 rfl rfl tv (Wn (Qn (Wt (QT.r ?_)))))
  cases H
  exact Ea rfl rfl rfl tv
 replace H := of_f H h1
 refine Wk (Qn (Ws (Wg (Wr 6 tk sg0 rfl rfl tv ?_))))
 obtain ⟨x3, hx3, H⟩ := of_bind H
 refine Wf [] (ref01_Num_0 _ hx3) ref01_Num_f rfl rfl tv rfl rfl rfl (Wr 1 tk sg0 rfl rfl tv (Wn (Qn (Wt ?_))))
 cases H
 exact Ea rfl rfl rfl tv
theorem ref01_Int_f : hasFunc Tryd.prog 54 Tryd.f54 := ⟨Tryd.func54, rfl, by kernel_rfl⟩

theorem ref08_Put_0 (a0 : List T_api_Decl) {r : ByteArray} (H : ref08_Put a0 = some r) : LJ.Spec Tryd.prog 29 [.d (slT enc_api_Decl a0)] [] (.d (.str r)) [] := by
 refine LJ.Spec.code Tryd.func29 rfl 64 rfl rfl [] rfl fun w0 F0 S0 B0 => ?_
 unfold ref08_Put at H
 refine Ws (Wg (Wr 1 tk sg0 rfl rfl tv (Wn (Qn (Ws (Wg (Wr 3 tk sg0 rfl rfl tv ?_)))))))
 obtain ⟨x1, hx1, H⟩ := of_bind H
 refine Wf [] (ref01_Num_0 _ hx1) ref01_Num_f rfl rfl tv rfl rfl rfl (Wr 1 tk sg0 rfl rfl tv (Wn (Qn (Ws (Ws (Wg (Wr 1 tk sg0 rfl rfl tv (Wn (Qn (Wb (Wl (ι := {x : Nat × (ByteArray × Int) // ref08_Put_l3 a0 x.1 x.2 = some r}) (fun x => [(0, .d (slT enc_api_Decl a0)), (3, .d (.str x.1.2.1)), (4, .d (.int .i64 x.1.2.2))]) (fun x => []) (fun x => x.1.1) ⟨(fuel, (x1, 0)), H⟩ (Less.mk' ⟨rfl, rfl, rfl, tv⟩ tv) fun x => ?_)))))))))))
 obtain ⟨⟨k3, s2⟩, H⟩ := x
 rcases k3 with _ | k3
 ·exact of_none H
 rw [ref08_Put_l3] at H
 refine Ws (Ws (Wg (Wr 4 tk sg0 rfl rfl tv (Wn (Qn (Wc rfl (fun h4 => ?_) (fun h4 => ?_)))))))
 ·replace H := of_t H h4
  refine Wk (Qn ?_)
  obtain ⟨K5, hK5, H⟩ := of_withK H
  refine WC.cut (fun E m => ∃ s6 : ByteArray, K5 s6 = some r ∧ LessW E m [(0, .d (slT enc_api_Decl a0)), (3, .d (.str s6)), (4, .d (.int .i64 s2.2))] []) ?_ ?_
  ·refine Wb (Ws (Wg ?_))
   obtain ⟨g7, H⟩ := of_need H
   refine Wr 4 tk sg0 rfl rfl ⟨⟨(nIn_ok g7).1, (nIn_ok g7).2, rfl⟩, tv⟩ (Wa 105 tk rfl rfl rfl (We 0 tk ek eg0 rfl rfl rfl tv (Wn (Qn (Ws (Wg (Wr 4 tk sg0 rfl rfl tv (We 124 tk ek eg0 rfl rfl rfl tv ?_))))))))
   obtain ⟨g8, H⟩ := of_need H
   refine WL.row 124 (rowOf (ByteArray.empty.push (UInt8.ofNat (IntKind.u8.wrap ((a0.getD s2.2.toNat default).Kind)).toNat))) rfl (rowOf_one (s := .empty) (nIn_ok g8).1 (nIn_ok g8).2) rfl (WL.ownStr (ByteArray.empty.push (UInt8.ofNat (IntKind.u8.wrap ((a0.getD s2.2.toNat default).Kind)).toNat)) tk rfl rfl rfl rfl ?_)
   obtain ⟨g9, H⟩ := of_need H
   refine Wr 2 tk sg0 rfl rfl ⟨(nStr_ok g9), tv⟩ (Wn (Qn (Ws (Ws (Wg (Wr 4 tk sg0 rfl rfl tv (Wx 3 3 false tk sg0 rfl rfl (fun _ => tv) (Wr 1 tk sg0 rfl rfl ⟨by first | exact id | exact fun h => by rw [h]; rfl | simp_all, tv⟩ (Wn (Qn (Wc rfl (fun h10 => ?_) (fun h10 => ?_))))))))))))
   ·replace H := of_t H h10
    refine Wg (Wr 4 tk sg0 rfl rfl tv ?_)
    obtain ⟨x11, hx11, H⟩ := of_bind H
    refine Wf [] (ref01_Num_0 _ hx11) ref01_Num_f rfl rfl tv rfl rfl rfl ?_
    obtain ⟨g12, H⟩ := of_need H
    refine Wr 2 tk sg0 rfl rfl ⟨(nStr_ok g12), tv⟩ (Wn (Qn (Ws (Ws (Wg (Wr 3 tk sg0 rfl rfl tv (Wn (Qn (Wc rfl (fun h13 => ?_) (fun h13 => ?_))))))))))
    ·replace H := of_t H h13
     refine Wg (Wr 3 tk sg0 rfl rfl tv ?_)
     obtain ⟨x14, hx14, H⟩ := of_bind H
     refine Wf [] (ref01_Int_0 _ hx14) ref01_Int_f rfl rfl tv rfl rfl rfl ?_
     obtain ⟨g15, H⟩ := of_need H
     refine Wr 2 tk sg0 rfl rfl ⟨(nStr_ok g15), tv⟩ (Wn (Qn (Ws (Wg (Wr 4 tk sg0 rfl rfl tv (Wx 3 3 false tk sg0 rfl rfl (fun _ => tv) (Wr 1 tk sg0 rfl rfl ⟨by first | exact id | exact fun h => by rw [h]; rfl | simp_all, tv⟩ (Wn (Qn (Wc rfl (fun h16 => ?_) (fun h16 => ?_)))))))))))
     ·replace H := of_t H h16
      refine Wg (Wr 4 tk sg0 rfl rfl tv ?_)
      obtain ⟨x17, hx17, H⟩ := of_bind H
      refine Wf [] (ref01_Num_0 _ hx17) ref01_Num_f rfl rfl tv rfl rfl rfl ?_
      obtain ⟨g18, H⟩ := of_need H
      refine Wr 2 tk sg0 rfl rfl ⟨(nStr_ok g18), tv⟩ (Wn (Qb (Qn ?_)))
      exact ⟨(((s2.1 ++ (ByteArray.empty.push (UInt8.ofNat (IntKind.u8.wrap ((a0.getD s2.2.toNat default).Kind)).toNat))) ++ x11) ++ x14) ++ x17, H, LessW.mk' ⟨Ao rfl, Ao rfl, Ao rfl, tv⟩ tv⟩
     replace H := of_f H h16
     refine Wk (Qb (Qn ?_))
     exact ⟨((s2.1 ++ (ByteArray.empty.push (UInt8.ofNat (IntKind.u8.wrap ((a0.getD s2.2.toNat default).Kind)).toNat))) ++ x11) ++ x14, H, LessW.mk' ⟨Ao rfl, Ao rfl, Ao rfl, tv⟩ tv⟩
    replace H := of_f H h13
    refine Wk (Qn (Ws (Wg (Wr 4 tk sg0 rfl rfl tv (Wx 3 3 false tk sg0 rfl rfl (fun _ => tv) (Wr 1 tk sg0 rfl rfl ⟨by first | exact id | exact fun h => by rw [h]; rfl | simp_all, tv⟩ (Wn (Qn (Wc rfl (fun h19 => ?_) (fun h19 => ?_))))))))))
    ·replace H := of_t H h19
     refine Wg (Wr 4 tk sg0 rfl rfl tv ?_)
     obtain ⟨x20, hx20, H⟩ := of_bind H
     refine Wf [] (ref01_Num_0 _ hx20) ref01_Num_f rfl rfl tv rfl rfl rfl ?_
     obtain ⟨g21, H⟩ := of_need H
     refine Wr 2 tk sg0 rfl rfl ⟨(nStr_ok g21), tv⟩ (Wn (Qb (Qn ?_)))
     exact ⟨((s2.1 ++ (ByteArray.empty.push (UInt8.ofNat (IntKind.u8.wrap ((a0.getD s2.2.toNat default).Kind)).toNat))) ++ x11) ++ x20, H, LessW.mk' ⟨Ao rfl, Ao rfl, Ao rfl, tv⟩ tv⟩
    replace H := of_f H h19
    refine Wk (Qb (Qn ?_))
    exact ⟨(s2.1 ++ (ByteArray.empty.push (UInt8.ofNat (IntKind.u8.wrap ((a0.getD s2.2.toNat default).Kind)).toNat))) ++ x11, H, LessW.mk' ⟨Ao rfl, Ao rfl, Ao rfl, tv⟩ tv⟩
   replace H := of_f H h10
   refine Wk (Qn (Ws (Ws (Wg (Wr 3 tk sg0 rfl rfl tv (Wn (Qn (Wc rfl (fun h22 => ?_) (fun h22 => ?_)))))))))
   ·replace H := of_t H h22
    refine Wg (Wr 3 tk sg0 rfl rfl tv ?_)
    obtain ⟨x23, hx23, H⟩ := of_bind H
    refine Wf [] (ref01_Int_0 _ hx23) ref01_Int_f rfl rfl tv rfl rfl rfl ?_
    obtain ⟨g24, H⟩ := of_need H
    refine Wr 2 tk sg0 rfl rfl ⟨(nStr_ok g24), tv⟩ (Wn (Qn (Ws (Wg (Wr 4 tk sg0 rfl rfl tv (Wx 3 3 false tk sg0 rfl rfl (fun _ => tv) (Wr 1 tk sg0 rfl rfl ⟨by first | exact id | exact fun h => by rw [h]; rfl | simp_all, tv⟩ (Wn (Qn (Wc rfl (fun h25 => ?_) (fun h25 => ?_)))))))))))
    ·replace H := of_t H h25
     refine Wg (Wr 4 tk sg0 rfl rfl tv ?_)
     obtain ⟨x26, hx26, H⟩ := of_bind H
     refine Wf [] (ref01_Num_0 _ hx26) ref01_Num_f rfl rfl tv rfl rfl rfl ?_
     obtain ⟨g27, H⟩ := of_need H
     refine Wr 2 tk sg0 rfl rfl ⟨(nStr_ok g27), tv⟩ (Wn (Qb (Qn ?_)))
     exact ⟨((s2.1 ++ (ByteArray.empty.push (UInt8.ofNat (IntKind.u8.wrap ((a0.getD s2.2.toNat default).Kind)).toNat))) ++ x23) ++ x26, H, LessW.mk' ⟨Ao rfl, Ao rfl, Ao rfl, tv⟩ tv⟩
    replace H := of_f H h25
    refine Wk (Qb (Qn ?_))
    exact ⟨(s2.1 ++ (ByteArray.empty.push (UInt8.ofNat (IntKind.u8.wrap ((a0.getD s2.2.toNat default).Kind)).toNat))) ++ x23, H, LessW.mk' ⟨Ao rfl, Ao rfl, Ao rfl, tv⟩ tv⟩
   replace H := of_f H h22
   refine Wk (Qn (Ws (Wg (Wr 4 tk sg0 rfl rfl tv (Wx 3 3 false tk sg0 rfl rfl (fun _ => tv) (Wr 1 tk sg0 rfl rfl ⟨by first | exact id | exact fun h => by rw [h]; rfl | simp_all, tv⟩ (Wn (Qn (Wc rfl (fun h28 => ?_) (fun h28 => ?_))))))))))
   ·replace H := of_t H h28
    refine Wg (Wr 4 tk sg0 rfl rfl tv ?_)
    obtain ⟨x29, hx29, H⟩ := of_bind H
    refine Wf [] (ref01_Num_0 _ hx29) ref01_Num_f rfl rfl tv rfl rfl rfl ?_
    obtain ⟨g30, H⟩ := of_need H
    refine Wr 2 tk sg0 rfl rfl ⟨(nStr_ok g30), tv⟩ (Wn (Qb (Qn ?_)))
    exact ⟨(s2.1 ++ (ByteArray.empty.push (UInt8.ofNat (IntKind.u8.wrap ((a0.getD s2.2.toNat default).Kind)).toNat))) ++ x29, H, LessW.mk' ⟨Ao rfl, Ao rfl, Ao rfl, tv⟩ tv⟩
   replace H := of_f H h28
   refine Wk (Qb (Qn ?_))
   exact ⟨s2.1 ++ (ByteArray.empty.push (UInt8.ofNat (IntKind.u8.wrap ((a0.getD s2.2.toNat default).Kind)).toNat)), H, LessW.mk' ⟨Ao rfl, Ao rfl, Ao rfl, tv⟩ tv⟩
  ·rintro E m ⟨s6, H, hl⟩
   refine WC.lessW hl ?_
   replace H := (hK5 _).symm.trans H
   try dsimp only at H
   exact Wg (Wr 3 tk sg0 rfl rfl tv (Wn (Qn (⟨⟨(k3, (s6, IntKind.i64.wrap (s2.2 + 1))), H⟩, Nat.lt_succ_self _, Less.mk' ⟨rfl, rfl, rfl, tv⟩ tv⟩))))
 replace H := of_f H h4
 refine WC.exit (Qx (Qx (Qh (Qn ?_))))
 refine Ws (Wg (Wr 2 tk sg0 rfl rfl tv (Wn (Qn (Wt ?_)))))
 cases H
 exact Ea rfl rfl rfl tv
theorem ref08_Put_f : hasFunc Tryd.prog 29 Tryd.f29 := ⟨Tryd.func29, rfl, by kernel_rfl⟩

theorem ref09_Put_0 (a0 : List (List T_api_Need)) {r : ByteArray} (H : ref09_Put a0 = some r) : LJ.Spec Tryd.prog 31 [.d (slT enc_sl_api_Need a0)] [] (.d (.str r)) [] := by
 refine LJ.Spec.code Tryd.func31 rfl 64 rfl rfl [] rfl fun w0 F0 S0 B0 => ?_
 unfold ref09_Put at H
 refine Ws (Wg (Wr 1 tk sg0 rfl rfl tv (Wn (Qn (Ws (Wg (Wr 3 tk sg0 rfl rfl tv ?_)))))))
 obtain ⟨x1, hx1, H⟩ := of_bind H
 refine Wf [] (ref01_Num_0 _ hx1) ref01_Num_f rfl rfl tv rfl rfl rfl (Wr 1 tk sg0 rfl rfl tv (Wn (Qn (Ws (Ws (Wg (Wr 1 tk sg0 rfl rfl tv (Wn (Qn (Wb (Wl (ι := {x : Nat × (ByteArray × Int) // ref09_Put_l3 a0 x.1 x.2 = some r}) (fun x => [(0, .d (slT enc_sl_api_Need a0)), (3, .d (.str x.1.2.1)), (4, .d (.int .i64 x.1.2.2))]) (fun x => []) (fun x => x.1.1) ⟨(fuel, (x1, 0)), H⟩ (Less.mk' ⟨rfl, rfl, rfl, tv⟩ tv) fun x => ?_)))))))))))
 obtain ⟨⟨k3, s2⟩, H⟩ := x
 rcases k3 with _ | k3
 ·exact of_none H
 rw [ref09_Put_l3] at H
 refine Ws (Ws (Wg (Wr 4 tk sg0 rfl rfl tv (Wn (Qn (Wc rfl (fun h4 => ?_) (fun h4 => ?_)))))))
 ·replace H := of_t H h4
  refine Wk (Qn ?_)
  obtain ⟨K5, hK5, H⟩ := of_withK H
  refine WC.cut (fun E m => ∃ s6 : ByteArray, K5 s6 = some r ∧ LessW E m [(0, .d (slT enc_sl_api_Need a0)), (3, .d (.str s6)), (4, .d (.int .i64 s2.2))] []) ?_ ?_
  ·refine Wb (Ws (Wg ?_))
   obtain ⟨g7, H⟩ := of_need H
   refine Wr 7 tk sg0 rfl rfl ⟨⟨(nIn_ok g7).1, (nIn_ok g7).2, rfl⟩, tv⟩ ?_
   obtain ⟨x8, hx8, H⟩ := of_bind H
   refine Wf [] (ref01_Num_0 _ hx8) ref01_Num_f rfl rfl tv rfl rfl rfl ?_
   obtain ⟨g9, H⟩ := of_need H
   refine Wr 2 tk sg0 rfl rfl ⟨(nStr_ok g9), tv⟩ (Wn (Qn (Ws (Wg (Wr 1 tk sg0 rfl rfl tv (Wn (Qn (Wb (Wl (ι := {x : Nat × (ByteArray × Int) // ref09_Put_l11 a0 s2 K5 x.1 x.2 = some r}) (fun x => [(0, .d (slT enc_sl_api_Need a0)), (3, .d (.str x.1.2.1)), (4, .d (.int .i64 s2.2)), (5, .d (.int .i64 x.1.2.2))]) (fun x => []) (fun x => x.1.1) ⟨(fuel, (s2.1 ++ x8, 0)), H⟩ (Less.mk' ⟨rfl, rfl, rfl, rfl, tv⟩ tv) fun x => ?_)))))))))
   obtain ⟨⟨k11, s10⟩, H⟩ := x
   rcases k11 with _ | k11
   ·exact of_none H
   rw [ref09_Put_l11] at H
   refine Ws (Ws (Wg ?_))
   obtain ⟨g12, H⟩ := of_need H
   refine Wr 7 tk sg0 rfl rfl ⟨⟨(nIn_ok g12).1, (nIn_ok g12).2, rfl⟩, tv⟩ (Wn (Qn (Wc rfl (fun h13 => ?_) (fun h13 => ?_))))
   ·replace H := of_t H h13
    refine Wk (Qn (Ws (Wb (Ws (Wg ?_)))))
    obtain ⟨g14, H⟩ := of_need H
    obtain ⟨g15, H⟩ := of_need H
    refine Wr 7 tk sg0 rfl rfl ⟨⟨(nIn_ok g14).1, (nIn_ok g14).2, rfl⟩, ⟨(nIn_ok g15).1, (nIn_ok g15).2, rfl⟩, tv⟩ (Wa 106 tk rfl rfl rfl (We 0 tk ek eg0 rfl rfl rfl tv (Wn (Qn (Ws ?_)))))
    obtain ⟨g10_5_1, H⟩ := of_need H
    obtain ⟨g10_6_1, H⟩ := of_need H
    obtain ⟨x10_10_1, hx10_10_1, H⟩ := of_bind H
    obtain ⟨g10_11_1, H⟩ := of_need H
    refine WC.heldF [(0, .d (slT enc_sl_api_Need a0)), (3, .d (.str ((s10.1 ++ (ByteArray.empty.push (UInt8.ofNat (IntKind.u8.wrap (((a0.getD s2.2.toNat default).getD s10.2.toNat default).Kind)).toNat))) ++ x10_10_1))), (4, .d (.int .i64 s2.2)), (5, .d (.int .i64 s10.2)), (6, .ptr 106 0)] [(106, .box 101 [.d (.int .i64 (((a0.getD s2.2.toNat default).getD s10.2.toNat default).Kind)), .d (.int .i64 (((a0.getD s2.2.toNat default).getD s10.2.toNat default).Obj)), .d (.int .i64 (((a0.getD s2.2.toNat default).getD s10.2.toNat default).N))])] (.one 0 true (.one 1 true (.one 2 true (.one 3 true (.one 7 true (.one 8 true (.one 9 true (.fork (.one 4 false (.fork (.one 5 false (.one 6 true (.one 10 false (.one 11 true (.one 12 true .done))))) (.one 10 false (.one 5 false (.one 6 true (.one 11 true (.one 12 true .done))))))) (.one 10 false (.one 4 false (.one 5 false (.one 6 true (.one 11 true (.one 12 true .done)))))))))))))) [106] [106] rfl (by kernel_rfl) rfl (by kernel_rfl) rfl rfl (fun _ h => h) rfl rfl rfl (fun FK NK wK K => ?_) ?_
    ·refine Hr 7 tk rfl rfl rfl rfl tv (WH.fork ?_ ?_)
     ·refine He 146 tk ek rfl rfl rfl rfl tv rfl rfl (WH.fork ?_ ?_)
      ·exact WH.row 146 (rowOf (ByteArray.empty.push (UInt8.ofNat (IntKind.u8.wrap (((a0.getD s2.2.toNat default).getD s10.2.toNat default).Kind)).toNat))) rfl (rowOf_one (s := .empty) (nIn_ok g10_5_1).1 (nIn_ok g10_5_1).2) rfl (WH.ownStr (ByteArray.empty.push (UInt8.ofNat (IntKind.u8.wrap (((a0.getD s2.2.toNat default).getD s10.2.toNat default).Kind)).toNat)) tk rfl rfl rfl rfl rfl rfl rfl (Hr 1 tk rfl rfl rfl rfl ⟨(nStr_ok g10_6_1), tv⟩ (WH.call [] rfl (ref01_Num_0 _ hx10_10_1) ref01_Num_f rfl rfl tv rfl rfl rfl rfl rfl (Hr 2 tk rfl rfl rfl rfl ⟨(nStr_ok g10_11_1), tv⟩ (Hn rfl (LessW.mk' ⟨Ao rfl, Ao rfl, Ao rfl, Ao rfl, Ao rfl, tv⟩ ⟨rfl, tv⟩))))))
      ·exact WH.call [] rfl (ref01_Num_0 _ hx10_10_1) ref01_Num_f rfl rfl tv rfl rfl rfl rfl rfl (WH.row 146 (rowOf (ByteArray.empty.push (UInt8.ofNat (IntKind.u8.wrap (((a0.getD s2.2.toNat default).getD s10.2.toNat default).Kind)).toNat))) rfl (rowOf_one (s := .empty) (nIn_ok g10_5_1).1 (nIn_ok g10_5_1).2) rfl (WH.ownStr (ByteArray.empty.push (UInt8.ofNat (IntKind.u8.wrap (((a0.getD s2.2.toNat default).getD s10.2.toNat default).Kind)).toNat)) tk rfl rfl rfl rfl rfl rfl rfl (Hr 3 tk rfl rfl rfl rfl ⟨(nStr_ok g10_6_1), (nStr_ok g10_11_1), tv⟩ (Hn rfl (LessW.mk' ⟨Ao rfl, Ao rfl, Ao rfl, Ao rfl, Ao rfl, tv⟩ ⟨rfl, tv⟩)))))
     ·exact WH.call [] rfl (ref01_Num_0 _ hx10_10_1) ref01_Num_f rfl rfl tv rfl rfl rfl rfl rfl (He 146 tk ek rfl rfl rfl rfl tv rfl rfl (WH.row 146 (rowOf (ByteArray.empty.push (UInt8.ofNat (IntKind.u8.wrap (((a0.getD s2.2.toNat default).getD s10.2.toNat default).Kind)).toNat))) rfl (rowOf_one (s := .empty) (nIn_ok g10_5_1).1 (nIn_ok g10_5_1).2) rfl (WH.ownStr (ByteArray.empty.push (UInt8.ofNat (IntKind.u8.wrap (((a0.getD s2.2.toNat default).getD s10.2.toNat default).Kind)).toNat)) tk rfl rfl rfl rfl rfl rfl rfl (Hr 3 tk rfl rfl rfl rfl ⟨(nStr_ok g10_6_1), (nStr_ok g10_11_1), tv⟩ (Hn rfl (LessW.mk' ⟨Ao rfl, Ao rfl, Ao rfl, Ao rfl, Ao rfl, tv⟩ ⟨rfl, tv⟩))))))
    ·refine Qn (Ws (Wg (Wr 3 tk sg0 rfl rfl tv (Wn (Qn (Wc rfl (fun h16 => ?_) (fun h16 => ?_)))))))
     ·replace H := of_t H h16
      refine Wg (Wr 4 tk sg0 rfl rfl tv ?_)
      obtain ⟨x17, hx17, H⟩ := of_bind H
      refine Wf [] (ref01_Num_0 _ hx17) ref01_Num_f rfl rfl tv rfl rfl rfl ?_
      obtain ⟨g18, H⟩ := of_need H
      refine Wr 2 tk sg0 rfl rfl ⟨(nStr_ok g18), tv⟩ (Wn (Qb (Qn ?_)))
      exact Wg (Wr 3 tk sg0 rfl rfl tv (Wn (Qn (⟨⟨(k11, (((s10.1 ++ (ByteArray.empty.push (UInt8.ofNat (IntKind.u8.wrap (((a0.getD s2.2.toNat default).getD s10.2.toNat default).Kind)).toNat))) ++ x10_10_1) ++ x17, IntKind.i64.wrap (s10.2 + 1))), H⟩, Nat.lt_succ_self _, Less.mk' ⟨rfl, rfl, rfl, rfl, tv⟩ tv⟩))))
     replace H := of_f H h16
     refine Wk (Qb (Qn ?_))
     exact Wg (Wr 3 tk sg0 rfl rfl tv (Wn (Qn (⟨⟨(k11, ((s10.1 ++ (ByteArray.empty.push (UInt8.ofNat (IntKind.u8.wrap (((a0.getD s2.2.toNat default).getD s10.2.toNat default).Kind)).toNat))) ++ x10_10_1, IntKind.i64.wrap (s10.2 + 1))), H⟩, Nat.lt_succ_self _, Less.mk' ⟨rfl, rfl, rfl, rfl, tv⟩ tv⟩))))
   replace H := of_f H h13
   refine WC.exit (Qx (Qx (Qh (Qb (Qn ?_)))))
   exact ⟨s10.1, H, LessW.mk' ⟨Ao rfl, Ao rfl, Ao rfl, tv⟩ tv⟩
  ·rintro E m ⟨s6, H, hl⟩
   refine WC.lessW hl ?_
   replace H := (hK5 _).symm.trans H
   try dsimp only at H
   exact Wg (Wr 3 tk sg0 rfl rfl tv (Wn (Qn (⟨⟨(k3, (s6, IntKind.i64.wrap (s2.2 + 1))), H⟩, Nat.lt_succ_self _, Less.mk' ⟨rfl, rfl, rfl, tv⟩ tv⟩))))
 replace H := of_f H h4
 refine WC.exit (Qx (Qx (Qh (Qn ?_))))
 refine Ws (Wg (Wr 2 tk sg0 rfl rfl tv (Wn (Qn (Wt ?_)))))
 cases H
 exact Ea rfl rfl rfl tv
theorem ref09_Put_f : hasFunc Tryd.prog 31 Tryd.f31 := ⟨Tryd.func31, rfl, by kernel_rfl⟩

theorem ref07_Put_0 (a0 : T_api_Ins) {r : ByteArray} (H : ref07_Put a0 = some r) : LJ.Spec Tryd.prog 32 [.d (.agg [.int .i64 a0.Op, .int .i64 a0.A, .int .i64 a0.B])] [] (.d (.str r)) [] := by
 refine LJ.Spec.code Tryd.func32 rfl 46 rfl rfl [] rfl fun w0 F0 S0 B0 => ?_
 unfold ref07_Put at H
 refine Ws (Wg (We 101 tk ek eg0 rfl rfl rfl tv (Wr 1 tk sg0 rfl rfl tv (Wn (Qn (Ws ?_))))))
 obtain ⟨x1_2_1, hx1_2_1, H⟩ := of_bind H
 refine WC.heldF [(1, .ptr 101 0), (3, .d (.str x1_2_1)), (4, .d (slT enc_i64 ([a0.A, a0.B] : List Int)))] [(101, .box 51 [.d (.int .i64 a0.Op), .d (.int .i64 a0.A), .d (.int .i64 a0.B)])] (.one 0 true (.one 1 true (.one 3 true (.one 4 true (.one 5 true (.one 6 true (.fork (.one 2 false (.one 8 true (.one 7 false (.one 9 true .done)))) (.one 7 false (.one 2 false (.one 8 true (.one 9 true .done))))))))))) [101] [101] rfl (by kernel_rfl) rfl (by kernel_rfl) rfl rfl (fun _ h => h) rfl rfl rfl (fun FK NK wK K => ?_) ?_
 ·refine Hr 6 tk rfl rfl rfl rfl tv (WH.fork ?_ ?_)
  ·exact WH.call [] rfl (ref06_Form_0 _ hx1_2_1) ref06_Form_f rfl rfl tv rfl rfl rfl rfl rfl (Hr 1 tk rfl rfl rfl rfl tv (He 114 tk ek rfl rfl rfl rfl tv rfl rfl (WH.freezeT 114 enc_i64 ([a0.A, a0.B] : List Int) rfl rfl rfl rfl (WH.mv rfl rfl rfl rfl rfl rfl rfl rfl rfl (Hn rfl (LessW.mk' ⟨Ao rfl, Ao rfl, Ao rfl, tv⟩ ⟨rfl, tv⟩))))))
  ·exact He 114 tk ek rfl rfl rfl rfl tv rfl rfl (WH.freezeT 114 enc_i64 ([a0.A, a0.B] : List Int) rfl rfl rfl rfl (WH.call [] rfl (ref06_Form_0 _ hx1_2_1) ref06_Form_f rfl rfl tv rfl rfl rfl rfl rfl (Hr 1 tk rfl rfl rfl rfl tv (WH.mv rfl rfl rfl rfl rfl rfl rfl rfl rfl (Hn rfl (LessW.mk' ⟨Ao rfl, Ao rfl, Ao rfl, tv⟩ ⟨rfl, tv⟩))))))
 ·refine Qn (Ws (Wg (Wr 3 tk sg0 rfl rfl tv (We 118 tk ek eg0 rfl rfl rfl tv ?_))))
  obtain ⟨g1, H⟩ := of_need H
  refine WL.row 118 (rowOf (ByteArray.empty.push (UInt8.ofNat (IntKind.u8.wrap a0.Op).toNat))) rfl (rowOf_one (s := .empty) (nIn_ok g1).1 (nIn_ok g1).2) rfl (WL.ownStr (ByteArray.empty.push (UInt8.ofNat (IntKind.u8.wrap a0.Op).toNat)) tk rfl rfl rfl rfl (Wr 1 tk sg0 rfl rfl tv (Wn (Qn (Ws (Ws (Wg (Wr 1 tk sg0 rfl rfl tv (Wn (Qn (Wb (Wl (ι := {x : Nat × (ByteArray × Int) // ref07_Put_l3 a0 x1_2_1 x.1 x.2 = some r}) (fun x => [(3, .d (.str x1_2_1)), (4, .d (slT enc_i64 ([a0.A, a0.B] : List Int))), (5, .d (.str x.1.2.1)), (6, .d (.int .i64 x.1.2.2))]) (fun x => []) (fun x => x.1.1) ⟨(fuel, (ByteArray.empty.push (UInt8.ofNat (IntKind.u8.wrap a0.Op).toNat), 0)), H⟩ (Less.mk' ⟨rfl, rfl, rfl, rfl, tv⟩ tv) fun x => ?_))))))))))))
  obtain ⟨⟨k3, s2⟩, H⟩ := x
  rcases k3 with _ | k3
  ·exact of_none H
  rw [ref07_Put_l3] at H
  refine Ws (Ws (Wg (Wr 4 tk sg0 rfl rfl tv (Wn (Qn (Wc rfl (fun h4 => ?_) (fun h4 => ?_)))))))
  ·replace H := of_t H h4
   refine Wk (Qn (Ws (Wb (Ws (Wg ?_)))))
   obtain ⟨g5, H⟩ := of_need H
   refine Wr 4 tk sg0 rfl rfl ⟨(nIn_ok g5), tv⟩ (Wn (Qn (Wc rfl (fun h6 => ?_) (fun h6 => ?_))))
   ·replace H := of_t H h6
    refine Wg ?_
    obtain ⟨g7, H⟩ := of_need H
    refine Wr 5 tk sg0 rfl rfl ⟨⟨(nIn_ok g7).1, (nIn_ok g7).2, rfl⟩, tv⟩ ?_
    obtain ⟨x8, hx8, H⟩ := of_bind H
    refine Wf [] (ref01_Int_0 _ hx8) ref01_Int_f rfl rfl tv rfl rfl rfl ?_
    obtain ⟨g9, H⟩ := of_need H
    refine Wr 2 tk sg0 rfl rfl ⟨(nStr_ok g9), tv⟩ (Wn (Qb (Qn ?_)))
    exact Wg (Wr 3 tk sg0 rfl rfl tv (Wn (Qn (⟨⟨(k3, (s2.1 ++ x8, IntKind.i64.wrap (s2.2 + 1))), H⟩, Nat.lt_succ_self _, Less.mk' ⟨rfl, rfl, rfl, rfl, tv⟩ tv⟩))))
   replace H := of_f H h6
   refine Wg ?_
   obtain ⟨g10, H⟩ := of_need H
   refine Wr 6 tk sg0 rfl rfl ⟨⟨(nIn_ok g10).1, (nIn_ok g10).2, rfl⟩, tv⟩ ?_
   obtain ⟨x11, hx11, H⟩ := of_bind H
   refine Wf [] (ref01_Num_0 _ hx11) ref01_Num_f rfl rfl tv rfl rfl rfl ?_
   obtain ⟨g12, H⟩ := of_need H
   refine Wr 2 tk sg0 rfl rfl ⟨(nStr_ok g12), tv⟩ (Wn (Qb (Qn ?_)))
   exact Wg (Wr 3 tk sg0 rfl rfl tv (Wn (Qn (⟨⟨(k3, (s2.1 ++ x11, IntKind.i64.wrap (s2.2 + 1))), H⟩, Nat.lt_succ_self _, Less.mk' ⟨rfl, rfl, rfl, rfl, tv⟩ tv⟩))))
  replace H := of_f H h4
  refine WC.exit (Qx (Qx (Qh (Qn ?_))))
  refine Ws (Wg (Wr 2 tk sg0 rfl rfl tv (Wn (Qn (Wt ?_)))))
  cases H
  exact Ea rfl rfl rfl tv
theorem ref07_Put_f : hasFunc Tryd.prog 32 Tryd.f32 := ⟨Tryd.func32, rfl, by kernel_rfl⟩

theorem ref10_Put_0 (a0 : T_api_Program) {r : ByteArray} (H : ref10_Put a0 = some r) : LJ.Spec Tryd.prog 11 [.d (.agg [slT enc_api_Decl a0.Decls, slT enc_sl_sl_api_Need a0.Waits, slT enc_api_Func a0.Funcs])] [] (.d (.str r)) [] := by
 refine LJ.Spec.code Tryd.func11 rfl 85 rfl rfl [] rfl fun w0 F0 S0 B0 => ?_
 unfold ref10_Put at H
 refine Ws (Wg (We 101 tk ek eg0 rfl rfl rfl tv (Wr 1 tk sg0 rfl rfl tv (Wn (Qn (Ws (Hp (.one 0 true (.one 1 true (.one 4 true (.one 5 true (.one 6 true (.one 7 true (.one 2 false (.one 3 true (.one 8 false (.one 9 true (.one 10 true .done))))))))))) [101] [101] rfl (by kernel_rfl) rfl (by kernel_rfl) rfl rfl (fun _ h => h) rfl rfl rfl (fun _ _ _ h => h) fun FK NK wK K => (Hr 6 tk rfl rfl rfl rfl tv ?_))))))))
 obtain ⟨x1, hx1, H⟩ := of_bind H
 refine WH.call [] rfl (ref08_Put_0 _ hx1) ref08_Put_f rfl rfl tv rfl rfl rfl rfl rfl ?_
 obtain ⟨g2, H⟩ := of_need H
 refine Hr 1 tk rfl rfl rfl rfl ⟨(nStr_ok g2), tv⟩ ?_
 obtain ⟨x3, hx3, H⟩ := of_bind H
 refine WH.call [] rfl (ref01_Num_0 _ hx3) ref01_Num_f rfl rfl tv rfl rfl rfl rfl rfl ?_
 obtain ⟨g4, H⟩ := of_need H
 refine Hr 2 tk rfl rfl rfl rfl ⟨(nStr_ok g4), tv⟩ (WH.nil rfl (Qn (Ws (Ws (Wg (Wr 1 tk sg0 rfl rfl tv (Wn (Qn (Wb (Wl (ι := {x : Nat × (ByteArray × Int) // ref10_Put_l6 a0 x.1 x.2 = some r}) (fun x => [(1, .ptr 101 0), (3, .d (.str x.1.2.1)), (4, .d (.int .i64 x.1.2.2))]) (fun x => [(101, .box 26 [.d (slT enc_api_Decl a0.Decls), .d (slT enc_sl_sl_api_Need a0.Waits), .d (slT enc_api_Func a0.Funcs)])]) (fun x => x.1.1) ⟨(fuel, (((⟨#[76, 74, 1]⟩ : ByteArray) ++ x1) ++ x3, 0)), H⟩ (Less.mk' ⟨rfl, rfl, rfl, tv⟩ ⟨rfl, tv⟩) fun x => ?_))))))))))
 obtain ⟨⟨k6, s5⟩, H⟩ := x
 rcases k6 with _ | k6
 ·exact of_none H
 rw [ref10_Put_l6] at H
 refine Ws (Ws (Wg (Wr 5 tk sg0 rfl rfl tv (Wn (Qn (Wc rfl (fun h7 => ?_) (fun h7 => ?_)))))))
 ·replace H := of_t H h7
  refine Wk (Qn (Ws (Wb (Wg ?_))))
  obtain ⟨g8, H⟩ := of_need H
  refine Wr 6 tk sg0 rfl rfl ⟨⟨(nIn_ok g8).1, (nIn_ok g8).2, rfl⟩, tv⟩ ?_
  obtain ⟨x9, hx9, H⟩ := of_bind H
  refine Wf [] (ref09_Put_0 _ hx9) ref09_Put_f rfl rfl tv rfl rfl rfl ?_
  obtain ⟨g10, H⟩ := of_need H
  refine Wr 2 tk sg0 rfl rfl ⟨(nStr_ok g10), tv⟩ (Wn (Qb (Qn ?_)))
  exact Wg (Wr 3 tk sg0 rfl rfl tv (Wn (Qn (⟨⟨(k6, (s5.1 ++ x9, IntKind.i64.wrap (s5.2 + 1))), H⟩, Nat.lt_succ_self _, Less.mk' ⟨rfl, rfl, rfl, tv⟩ ⟨rfl, tv⟩⟩))))
 replace H := of_f H h7
 refine WC.exit (Qx (Qx (Qh (Qn ?_))))
 refine Ws (Wg (Wr 5 tk sg0 rfl rfl tv ?_))
 obtain ⟨x11, hx11, H⟩ := of_bind H
 refine Wf [] (ref01_Num_0 _ hx11) ref01_Num_f rfl rfl tv rfl rfl rfl ?_
 obtain ⟨g12, H⟩ := of_need H
 refine Wr 2 tk sg0 rfl rfl ⟨(nStr_ok g12), tv⟩ (Wn (Qn (Ws (Ws (Wg (Wr 1 tk sg0 rfl rfl tv (Wn (Qn (Wb (Wl (ι := {x : Nat × (ByteArray × Int) // ref10_Put_l14 a0 x.1 x.2 = some r}) (fun x => [(1, .ptr 101 0), (3, .d (.str x.1.2.1)), (5, .d (.int .i64 x.1.2.2))]) (fun x => [(101, .box 26 [.d (slT enc_api_Decl a0.Decls), .d (slT enc_sl_sl_api_Need a0.Waits), .d (slT enc_api_Func a0.Funcs)])]) (fun x => x.1.1) ⟨(fuel, (s5.1 ++ x11, 0)), H⟩ (Less.mk' ⟨rfl, rfl, rfl, tv⟩ ⟨rfl, tv⟩) fun x => ?_))))))))))
 obtain ⟨⟨k14, s13⟩, H⟩ := x
 rcases k14 with _ | k14
 ·exact of_none H
 rw [ref10_Put_l14] at H
 refine Ws (Ws (Wg (Wr 5 tk sg0 rfl rfl tv (Wn (Qn (Wc rfl (fun h15 => ?_) (fun h15 => ?_)))))))
 ·replace H := of_t H h15
  refine Wk (Qn ?_)
  obtain ⟨K16, hK16, H⟩ := of_withK H
  refine WC.cut (fun E m => ∃ s17 : ByteArray, K16 s17 = some r ∧ LessW E m [(1, .ptr 101 0), (3, .d (.str s17)), (5, .d (.int .i64 s13.2))] [(101, .box 26 [.d (slT enc_api_Decl a0.Decls), .d (slT enc_sl_sl_api_Need a0.Waits), .d (slT enc_api_Func a0.Funcs)])]) ?_ ?_
  ·refine Wb (Ws (Wg ?_))
   obtain ⟨g18, H⟩ := of_need H
   refine Wr 5 tk sg0 rfl rfl ⟨⟨(nIn_ok g18).1, (nIn_ok g18).2, rfl⟩, tv⟩ (Wa 106 tk rfl rfl rfl (We 0 tk ek eg0 rfl rfl rfl tv (Wn (Qn (Ws (Hp (.one 0 true (.one 1 true (.one 2 true (.one 3 true (.one 6 true (.one 7 true (.one 8 true (.one 11 true (.one 12 true (.one 13 true (.one 14 true (.one 4 false (.one 5 true (.one 9 false (.one 10 true (.one 15 false (.one 16 true (.one 17 true .done)))))))))))))))))) [101, 106] [101, 106] rfl (by kernel_rfl) rfl (by kernel_rfl) rfl rfl (fun _ h => h) rfl rfl rfl (fun _ _ _ h => h) fun FK NK wK K => (Hr 11 tk rfl rfl rfl rfl tv ?_)))))))
   obtain ⟨x19, hx19, H⟩ := of_bind H
   refine WH.call [] rfl (ref01_Num_0 _ hx19) ref01_Num_f rfl rfl tv rfl rfl rfl rfl rfl ?_
   obtain ⟨g20, H⟩ := of_need H
   refine Hr 1 tk rfl rfl rfl rfl ⟨(nStr_ok g20), tv⟩ ?_
   obtain ⟨x21, hx21, H⟩ := of_bind H
   refine WH.call [] rfl (ref01_Num_0 _ hx21) ref01_Num_f rfl rfl tv rfl rfl rfl rfl rfl ?_
   obtain ⟨g22, H⟩ := of_need H
   refine Hr 1 tk rfl rfl rfl rfl ⟨(nStr_ok g22), tv⟩ ?_
   obtain ⟨x23, hx23, H⟩ := of_bind H
   refine WH.call [] rfl (ref01_Num_0 _ hx23) ref01_Num_f rfl rfl tv rfl rfl rfl rfl rfl ?_
   obtain ⟨g24, H⟩ := of_need H
   refine Hr 2 tk rfl rfl rfl rfl ⟨(nStr_ok g24), tv⟩ (WH.nil rfl (Qn (Ws (Wg (Wr 1 tk sg0 rfl rfl tv (Wn (Qn (Wb (Wl (ι := {x : Nat × (ByteArray × Int) // ref10_Put_l26 a0 s13 K16 x.1 x.2 = some r}) (fun x => [(1, .ptr 101 0), (3, .d (.str x.1.2.1)), (5, .d (.int .i64 s13.2)), (6, .ptr 106 0), (7, .d (.int .i64 x.1.2.2))]) (fun x => [(101, .box 26 [.d (slT enc_api_Decl a0.Decls), .d (slT enc_sl_sl_api_Need a0.Waits), .d (slT enc_api_Func a0.Funcs)]), (106, .box 49 [.d (.int .i64 ((a0.Funcs.getD s13.2.toNat default).Args)), .d (.int .i64 ((a0.Funcs.getD s13.2.toNat default).Locals)), .d (slT enc_api_Ins ((a0.Funcs.getD s13.2.toNat default).Code))])]) (fun x => x.1.1) ⟨(fuel, (((s13.1 ++ x19) ++ x21) ++ x23, 0)), H⟩ (Less.mk' ⟨rfl, rfl, rfl, rfl, rfl, tv⟩ ⟨rfl, rfl, tv⟩) fun x => ?_)))))))))
   obtain ⟨⟨k26, s25⟩, H⟩ := x
   rcases k26 with _ | k26
   ·exact of_none H
   rw [ref10_Put_l26] at H
   refine Ws (Ws (Wg (Wr 5 tk sg0 rfl rfl tv (Wn (Qn (Wc rfl (fun h27 => ?_) (fun h27 => ?_)))))))
   ·replace H := of_t H h27
    refine Wk (Qn (Ws (Wb (Wg ?_))))
    obtain ⟨g28, H⟩ := of_need H
    refine Wr 6 tk sg0 rfl rfl ⟨⟨(nIn_ok g28).1, (nIn_ok g28).2, rfl⟩, tv⟩ ?_
    obtain ⟨x29, hx29, H⟩ := of_bind H
    refine Wf [] (ref07_Put_0 _ hx29) ref07_Put_f rfl rfl tv rfl rfl rfl ?_
    obtain ⟨g30, H⟩ := of_need H
    refine Wr 2 tk sg0 rfl rfl ⟨(nStr_ok g30), tv⟩ (Wn (Qb (Qn ?_)))
    exact Wg (Wr 3 tk sg0 rfl rfl tv (Wn (Qn (⟨⟨(k26, (s25.1 ++ x29, IntKind.i64.wrap (s25.2 + 1))), H⟩, Nat.lt_succ_self _, Less.mk' ⟨rfl, rfl, rfl, rfl, rfl, tv⟩ ⟨rfl, rfl, tv⟩⟩))))
   replace H := of_f H h27
   refine WC.exit (Qx (Qx (Qh (Qb (Qn ?_)))))
   exact ⟨s25.1, H, LessW.mk' ⟨Ao rfl, Ao rfl, Ao rfl, tv⟩ ⟨rfl, tv⟩⟩
  ·rintro E m ⟨s17, H, hl⟩
   refine WC.lessW hl ?_
   replace H := (hK16 _).symm.trans H
   try dsimp only at H
   exact Wg (Wr 3 tk sg0 rfl rfl tv (Wn (Qn (⟨⟨(k14, (s17, IntKind.i64.wrap (s13.2 + 1))), H⟩, Nat.lt_succ_self _, Less.mk' ⟨rfl, rfl, rfl, tv⟩ ⟨rfl, tv⟩⟩))))
 replace H := of_f H h15
 refine WC.exit (Qx (Qx (Qh (Qn ?_))))
 refine Ws (Wg (Wr 2 tk sg0 rfl rfl tv (Wn (Qn (Wt ?_)))))
 cases H
 exact Ea rfl rfl rfl tv
theorem ref10_Put_f : hasFunc Tryd.prog 11 Tryd.f11 := ⟨Tryd.func11, rfl, by kernel_rfl⟩

theorem istringslite_HasPrefix_0 (a0 : ByteArray) (a1 : ByteArray) {r : Bool} (H : istringslite_HasPrefix a0 a1 = some r) : LJ.Spec Tryd.prog 56 [.d (.str a0), .d (.str a1)] [] (.d (.bool r)) [] := by
 refine LJ.Spec.code Tryd.func56 rfl 18 rfl rfl [] rfl fun w0 F0 S0 B0 => ?_
 unfold istringslite_HasPrefix at H
 refine Ws (Wg (Wr 1 tk sg0 rfl rfl tv (Wn (Qn (Ws (Wg (Wr 6 tk sg0 rfl rfl tv ?_)))))))
 obtain ⟨g1, H⟩ := of_needS H
 refine Wx 6 5 true tk sg0 rfl rfl (fun hb => ⟨(nTo_ok (g1 hb)), tv⟩) (Wr 2 tk sg0 rfl rfl ⟨by first | exact id | exact fun h => by rw [h]; rfl | simp_all, tv⟩ (Wn (Qn (Wt ?_))))
 cases H
 exact Ea rfl rfl rfl tv
theorem istringslite_HasPrefix_f : hasFunc Tryd.prog 56 Tryd.f56 := ⟨Tryd.func56, rfl, by kernel_rfl⟩

theorem strings_HasPrefix_0 (a0 : ByteArray) (a1 : ByteArray) {r : Bool} (H : strings_HasPrefix a0 a1 = some r) : LJ.Spec Tryd.prog 34 [.d (.str a0), .d (.str a1)] [] (.d (.bool r)) [] := by
 refine LJ.Spec.code Tryd.func34 rfl 8 rfl rfl [] rfl fun w0 F0 S0 B0 => ?_
 unfold strings_HasPrefix at H
 refine Ws (Wg (Wr 1 tk sg0 rfl rfl tv (Wn (Qn (Ws (Wg (Wr 2 tk sg0 rfl rfl tv ?_)))))))
 obtain ⟨x1, hx1, H⟩ := of_bind H
 refine Wf [] (istringslite_HasPrefix_0 _ _ hx1) istringslite_HasPrefix_f rfl rfl tv rfl rfl rfl (Wr 1 tk sg0 rfl rfl tv (Wn (Qn (Wt ?_))))
 cases H
 exact Ea rfl rfl rfl tv
theorem strings_HasPrefix_f : hasFunc Tryd.prog 34 Tryd.f34 := ⟨Tryd.func34, rfl, by kernel_rfl⟩

theorem octet_Open_0 (a0 : ByteArray) {r : T_octet_In} (H : octet_Open a0 = some r) : LJ.Spec Tryd.prog 84 [.d (.str a0)] [] (.ptr 0 0) [(0, .box 160 [.d (.str r.s), .d (.int .i64 r.at_), .d (.int .i64 r.err)])] := by
 refine LJ.Spec.code Tryd.func84 rfl 6 rfl rfl [] rfl fun w0 F0 S0 B0 => ?_
 unfold octet_Open at H
 refine Ws (Wg (Wr 1 tk sg0 rfl rfl tv (Wn (Qn (Ws (Wg (Wr 2 tk sg0 rfl rfl tv (We 0 tk ek eg0 rfl rfl rfl tv (Wr 1 tk sg0 rfl rfl tv (Wn (Qn (Wt ?_))))))))))))
 cases H
 exact Ea rfl rfl rfl ⟨rfl, tv⟩
theorem octet_Open_s (n0 : Nat) (hn : nodupB [n0] = true) (a0 : ByteArray) {r : T_octet_In} (H : octet_Open a0 = some r) : LJ.Spec Tryd.prog 84 [.d (.str a0)] [] (.ptr n0 0) [(n0, .box 160 [.d (.str r.s), .d (.int .i64 r.at_), .d (.int .i64 r.err)])] :=
 Spec.names [n0] hn rfl rfl (octet_Open_0 a0 H)
theorem octet_Open_f : hasFunc Tryd.prog 84 Tryd.f84 := ⟨Tryd.func84, rfl, by kernel_rfl⟩

theorem octet_In_fail_0 (a0 : T_octet_In) (a1 : Int) {r : T_octet_In} (H : octet_In_fail a0 a1 = some r) : LJ.Spec Tryd.prog 100 [.ptr 0 0, .d (.int .i64 a1)] [(0, .box 160 [.d (.str a0.s), .d (.int .i64 a0.at_), .d (.int .i64 a0.err)])] (.tup []) [(0, .box 160 [.d (.str r.s), .d (.int .i64 r.at_), .d (.int .i64 r.err)])] := by
 refine LJ.Spec.code Tryd.func100 rfl 21 rfl rfl [0] rfl fun w0 F0 S0 B0 => ?_
 unfold octet_In_fail at H
 refine Ws (Wg (Wr 5 tk sg0 rfl rfl tv (Wn (Qn (Wc rfl (fun h1 => ?_) (fun h1 => ?_))))))
 ·replace H := of_t H h1
  refine Wg (Wr 10 tk sg0 rfl rfl tv (We 0 tk ek eg0 rfl rfl rfl tv (Wr 2 tk sg0 rfl rfl tv (We 0 tk ek eg0 rfl rfl rfl tv (Wn ?_)))))
  cases H
  exact Ends.auton rfl rfl rfl ⟨rfl, tv⟩
 replace H := of_f H h1
 refine Wk ?_
 cases H
 exact Ends.auton rfl rfl rfl ⟨rfl, tv⟩
theorem octet_In_fail_s (n0 : Nat) (hn : nodupB [n0] = true) (a0 : T_octet_In) (a1 : Int) {r : T_octet_In} (H : octet_In_fail a0 a1 = some r) : LJ.Spec Tryd.prog 100 [.ptr n0 0, .d (.int .i64 a1)] [(n0, .box 160 [.d (.str a0.s), .d (.int .i64 a0.at_), .d (.int .i64 a0.err)])] (.tup []) [(n0, .box 160 [.d (.str r.s), .d (.int .i64 r.at_), .d (.int .i64 r.err)])] :=
 Spec.names [n0] hn rfl rfl (octet_In_fail_0 a0 a1 H)
theorem octet_In_fail_f : hasFunc Tryd.prog 100 Tryd.f100 := ⟨Tryd.func100, rfl, by kernel_rfl⟩

theorem octet_In_Byte_0 (a0 : T_octet_In) {r : Int × T_octet_In} (H : octet_In_Byte a0 = some r) : LJ.Spec Tryd.prog 99 [.ptr 0 0] [(0, .box 160 [.d (.str a0.s), .d (.int .i64 a0.at_), .d (.int .i64 a0.err)])] (.d (.int .i64 r.1)) [(0, .box 160 [.d (.str r.2.s), .d (.int .i64 r.2.at_), .d (.int .i64 r.2.err)])] := by
 refine LJ.Spec.code Tryd.func99 rfl 35 rfl rfl [0] rfl fun w0 F0 S0 B0 => ?_
 unfold octet_In_Byte at H
 refine Ws (Wg (Wr 1 tk sg0 rfl rfl tv (Wn (Qn (Ws (Ws (Wg (Wr 2 tk sg0 rfl rfl tv (Wn (Qn (Wc rfl (fun h => absurd h (by decide)) (fun h => ?_))))))))))))
 refine Wk (Qn (Ws (Ws (Hp (.one 0 true (.one 1 true (.one 2 true (.one 3 true (.one 4 true (.one 5 true (.one 6 true (.one 7 true (.one 8 true (.one 9 true .done)))))))))) [0] [0] rfl (by kernel_rfl) rfl (by kernel_rfl) rfl rfl (fun _ h => h) rfl rfl rfl (fun _ _ _ h => h) fun FK NK wK K => (Hr 10 tk rfl rfl rfl rfl tv (WH.nil rfl (Qn (Wc rfl (fun h1 => ?_) (fun h1 => ?_)))))))))
 ·replace H := of_t H h1
  refine Ws (Wg (Wr 1 tk sg0 rfl rfl tv ?_))
  obtain ⟨x2, hx2, H⟩ := of_bind H
  refine Wf [] (octet_In_fail_s 0 rfl _ _ hx2) octet_In_fail_f rfl rfl ⟨rfl, tv⟩ rfl rfl rfl (Wn (Qn (Ws (Wg (Wr 1 tk sg0 rfl rfl tv (Wn (Qn (Wt (QT.r ?_)))))))))
  cases H
  exact Ea rfl rfl rfl ⟨rfl, tv⟩
 replace H := of_f H h1
 refine Wk (Qn (Ws (Wg (Wr 7 tk sg0 rfl rfl tv (We 0 tk ek eg0 rfl rfl rfl tv (Wn (Qn (Ws (Hp (.one 0 true (.one 1 true (.one 2 true (.one 3 true (.one 4 true (.one 5 true (.one 6 true (.one 7 true (.one 8 true (.one 9 true (.one 10 true (.one 11 true .done)))))))))))) [0] [0] rfl (by kernel_rfl) rfl (by kernel_rfl) rfl rfl (fun _ h => h) rfl rfl rfl (fun _ _ _ h => h) fun FK NK wK K => ?_)))))))))
 obtain ⟨g3, H⟩ := of_need H
 refine Hr 12 tk rfl rfl rfl rfl ⟨(nIn_ok g3), tv⟩ (WH.nil rfl (Qn (Wt ?_)))
 cases H
 exact Ea rfl rfl rfl ⟨rfl, tv⟩
theorem octet_In_Byte_s (n0 : Nat) (hn : nodupB [n0] = true) (a0 : T_octet_In) {r : Int × T_octet_In} (H : octet_In_Byte a0 = some r) : LJ.Spec Tryd.prog 99 [.ptr n0 0] [(n0, .box 160 [.d (.str a0.s), .d (.int .i64 a0.at_), .d (.int .i64 a0.err)])] (.d (.int .i64 r.1)) [(n0, .box 160 [.d (.str r.2.s), .d (.int .i64 r.2.at_), .d (.int .i64 r.2.err)])] :=
 Spec.names [n0] hn rfl rfl (octet_In_Byte_0 a0 H)
theorem octet_In_Byte_f : hasFunc Tryd.prog 99 Tryd.f99 := ⟨Tryd.func99, rfl, by kernel_rfl⟩

theorem octet_In_Num_0 (a0 : T_octet_In) {r : Int × T_octet_In} (H : octet_In_Num a0 = some r) : LJ.Spec Tryd.prog 85 [.ptr 0 0] [(0, .box 160 [.d (.str a0.s), .d (.int .i64 a0.at_), .d (.int .i64 a0.err)])] (.d (.int .u64 r.1)) [(0, .box 160 [.d (.str r.2.s), .d (.int .i64 r.2.at_), .d (.int .i64 r.2.err)])] := by
 refine LJ.Spec.code Tryd.func85 rfl 49 rfl rfl [0] rfl fun w0 F0 S0 B0 => ?_
 unfold octet_In_Num at H
 refine Ws (Wg (Wr 1 tk sg0 rfl rfl tv (Wn (Qn (Ws (Wg (Wr 1 tk sg0 rfl rfl tv (Wn (Qn (Ws (Ws (Wg (Wr 1 tk sg0 rfl rfl tv (Wn (Qn (Wb (Wl (ι := {x : Nat × (Int × Int × ByteArray × Int × Int) // octet_In_Num_l2 x.1 x.2 = some r}) (fun x => [(0, .ptr 0 0), (3, .d (.int .u64 x.1.2.1)), (6, .d (.int .i64 x.1.2.2.1))]) (fun x => [(0, .box 160 [.d (.str x.1.2.2.2.1), .d (.int .i64 x.1.2.2.2.2.1), .d (.int .i64 x.1.2.2.2.2.2)])]) (fun x => x.1.1) ⟨(fuel, (0, 0, a0.s, a0.at_, a0.err)), H⟩ (Less.mk' ⟨rfl, rfl, rfl, tv⟩ ⟨rfl, tv⟩) fun x => ?_)))))))))))))))))
 obtain ⟨⟨k2, s1⟩, H⟩ := x
 rcases k2 with _ | k2
 ·exact of_none H
 rw [octet_In_Num_l2] at H
 refine Ws (Wg (Wr 1 tk sg0 rfl rfl tv (Wn (Qn (Ws (Wc rfl (fun h3 => ?_) (fun h3 => ?_)))))))
 ·replace H := of_t H h3
  refine Wk (Qn (Ws (Wb (Ws (Wg (Wr 2 tk sg0 rfl rfl tv (Wn (Qn (Ws (Wg (Wr 1 tk sg0 rfl rfl tv ?_)))))))))))
  obtain ⟨x4, hx4, H⟩ := of_bind H
  refine Wf [] (octet_In_Byte_s 0 rfl _ hx4) octet_In_Byte_f rfl rfl ⟨rfl, tv⟩ rfl rfl rfl (Wr 1 tk sg0 rfl rfl tv (Wn (Qn (Ws (Ws (Wg (Wr 3 tk sg0 rfl rfl tv (WL.grun 5 2 false 13 tk sg0 rfl rfl rfl rfl tv (WL.pickF rfl rfl rfl rfl rfl rfl (Wn (Qn (Wc rfl (fun h5 => ?_) (fun h5 => ?_)))))))))))))
  ·replace H := of_t H h5
   refine Ws (Wg (Wr 1 tk sg0 rfl rfl tv (Wn (Qn (Wt (QT.r (QB.r (QT.r (QT.r (QB.r (QT.r ?_)))))))))))
   cases H
   exact Ea rfl rfl rfl ⟨rfl, tv⟩
  replace H := of_f H h5
  refine Wk (Qn (Ws (Ws (Wg (Wr 3 tk sg0 rfl rfl tv (Wx 2 2 true tk sg0 rfl rfl (fun _ => tv) (Wr 2 tk sg0 rfl rfl ⟨by first | exact id | exact fun h => by rw [h]; rfl | simp_all, tv⟩ (Wx 3 6 false tk sg0 rfl rfl (fun _ => tv) (Wx 2 9 true tk sg0 rfl rfl (fun _ => tv) (Wx 1 6 false tk sg0 rfl rfl (fun hb => ⟨by first | exact id | exact ⟨hb, fun h => by rw [hb, h]; rfl⟩ | exact ⟨hb, id⟩ | exact fun h => by rw [hb, h]; rfl | exact fun h => by rw [h]; rfl | simp_all, tv⟩) (Wr 1 tk sg0 rfl rfl ⟨by first | exact id | exact fun h => by rw [h]; rfl | simp_all, tv⟩ (Wn (Qn (Wc rfl (fun h6 => ?_) (fun h6 => ?_)))))))))))))))
  ·replace H := of_t H h6
   refine Ws (Wg (Wr 1 tk sg0 rfl rfl tv ?_))
   obtain ⟨x7, hx7, H⟩ := of_bind H
   refine Wf [] (octet_In_fail_s 0 rfl _ _ hx7) octet_In_fail_f rfl rfl ⟨rfl, tv⟩ rfl rfl rfl (Wn (Qn (Ws (Wg (Wr 1 tk sg0 rfl rfl tv (Wn (Qn (Wt (QT.r (QB.r (QT.r (QT.r (QB.r (QT.r ?_))))))))))))))
   cases H
   exact Ea rfl rfl rfl ⟨rfl, tv⟩
  replace H := of_f H h6
  refine Wk (Qn (Ws (Wg ?_)))
  obtain ⟨g8, H⟩ := of_need H
  refine Wr 9 tk sg0 rfl rfl ⟨(nNn_ok g8), tv⟩ (Wn (Qn (Ws (Wg (Wr 2 tk sg0 rfl rfl tv (Wn (Qn (Wc rfl (fun h9 => ?_) (fun h9 => ?_)))))))))
  ·replace H := of_t H h9
   refine Ws (Wg (Wr 2 tk sg0 rfl rfl tv (Wn (Qn (Wt (QB.r (QT.r (QT.r (QB.r (QT.r ?_))))))))))
   cases H
   exact Ea rfl rfl rfl ⟨rfl, tv⟩
  replace H := of_f H h9
  refine Wk (Qb (Qn ?_))
  exact Wg (Wr 2 tk sg0 rfl rfl tv (Wn (Qn (⟨⟨(k2, (Go.bits .or .u64 s1.1 (IntKind.u64.wrap ((IntKind.u64.wrap (Go.bits .and .i64 x4.1 127)) * 2 ^ min (IntKind.i64.wrap ((7 : Int) * s1.2.1) : Int).toNat IntKind.u64.bits)), IntKind.i64.wrap (s1.2.1 + 1), x4.2.s, x4.2.at_, x4.2.err)), H⟩, Nat.lt_succ_self _, Less.mk' ⟨rfl, rfl, rfl, tv⟩ ⟨rfl, tv⟩⟩))))
 replace H := of_f H h3
 refine WC.exit (Qx (Qx (Qh (Qn ?_))))
 refine Ws (Wg (Wr 2 tk sg0 rfl rfl tv (Wn (Qn (Wt ?_)))))
 cases H
 exact Ea rfl rfl rfl ⟨rfl, tv⟩
theorem octet_In_Num_s (n0 : Nat) (hn : nodupB [n0] = true) (a0 : T_octet_In) {r : Int × T_octet_In} (H : octet_In_Num a0 = some r) : LJ.Spec Tryd.prog 85 [.ptr n0 0] [(n0, .box 160 [.d (.str a0.s), .d (.int .i64 a0.at_), .d (.int .i64 a0.err)])] (.d (.int .u64 r.1)) [(n0, .box 160 [.d (.str r.2.s), .d (.int .i64 r.2.at_), .d (.int .i64 r.2.err)])] :=
 Spec.names [n0] hn rfl rfl (octet_In_Num_0 a0 H)
theorem octet_In_Num_f : hasFunc Tryd.prog 85 Tryd.f85 := ⟨Tryd.func85, rfl, by kernel_rfl⟩

theorem octet_In_Err_0 (a0 : T_octet_In) {r : Int} (H : octet_In_Err a0 = some r) : LJ.Spec Tryd.prog 86 [.ptr 0 0] [(0, .box 160 [.d (.str a0.s), .d (.int .i64 a0.at_), .d (.int .i64 a0.err)])] (.d (.int .i64 r)) [(0, .box 160 [.d (.str a0.s), .d (.int .i64 a0.at_), .d (.int .i64 a0.err)])] := by
 refine LJ.Spec.code Tryd.func86 rfl 9 rfl rfl [0] rfl fun w0 F0 S0 B0 => ?_
 unfold octet_In_Err at H
 refine Ws (Wg (Wr 1 tk sg0 rfl rfl tv (Wn (Qn (Ws (Ws (Wg (Wr 2 tk sg0 rfl rfl tv (Wn (Qn (Wc rfl (fun h => absurd h (by decide)) (fun h => ?_))))))))))))
 refine Wk (Qn (Ws (Wg (Wr 5 tk sg0 rfl rfl tv (Wn (Qn (Wt ?_)))))))
 cases H
 exact Ea rfl rfl rfl ⟨rfl, tv⟩
theorem octet_In_Err_s (n0 : Nat) (hn : nodupB [n0] = true) (a0 : T_octet_In) {r : Int} (H : octet_In_Err a0 = some r) : LJ.Spec Tryd.prog 86 [.ptr n0 0] [(n0, .box 160 [.d (.str a0.s), .d (.int .i64 a0.at_), .d (.int .i64 a0.err)])] (.d (.int .i64 r)) [(n0, .box 160 [.d (.str a0.s), .d (.int .i64 a0.at_), .d (.int .i64 a0.err)])] :=
 Spec.names [n0] hn rfl rfl (octet_In_Err_0 a0 H)
theorem octet_In_Err_f : hasFunc Tryd.prog 86 Tryd.f86 := ⟨Tryd.func86, rfl, by kernel_rfl⟩

theorem decl_Name_0 (a0 : Int) {r : ByteArray} (H : decl_Name a0 = some r) : LJ.Spec Tryd.prog 101 [.d (.int .i64 a0)] [] (.d (.str r)) [] := by
 refine LJ.Spec.code Tryd.func101 rfl 18 rfl rfl [] rfl fun w0 F0 S0 B0 => ?_
 unfold decl_Name at H
 refine Ws (Wg (Wr 1 tk sg0 rfl rfl tv (Wn (Qn (Ws (Ws (Wg (Wr 1 tk sg0 rfl rfl tv (Wn (Qn (Wb (Ws (Wg (Wr 2 tk sg0 rfl rfl tv (Wn (Qn (Wc rfl (fun h1 => ?_) (fun h1 => ?_))))))))))))))))))
 ·replace H := of_t H h1
  refine Ws (Wg (Wr 1 tk sg0 rfl rfl tv (Wn (Qn (Wt (QB.r (QT.r ?_)))))))
  cases H
  exact Ea rfl rfl rfl tv
 replace H := of_f H h1
 refine Ws (Wg (Wr 2 tk sg0 rfl rfl tv (Wn (Qn (Wc rfl (fun h2 => ?_) (fun h2 => ?_))))))
 ·replace H := of_t H h2
  refine Ws (Wg (Wr 1 tk sg0 rfl rfl tv (Wn (Qn (Wt (QB.r (QT.r ?_)))))))
  cases H
  exact Ea rfl rfl rfl tv
 replace H := of_f H h2
 refine Ws (Wg (Wr 2 tk sg0 rfl rfl tv (Wn (Qn (Wc rfl (fun h3 => ?_) (fun h3 => ?_))))))
 ·replace H := of_t H h3
  refine Ws (Wg (Wr 1 tk sg0 rfl rfl tv (Wn (Qn (Wt (QB.r (QT.r ?_)))))))
  cases H
  exact Ea rfl rfl rfl tv
 replace H := of_f H h3
 refine Ws (Wg (Wr 2 tk sg0 rfl rfl tv (Wn (Qn (Wc rfl (fun h4 => ?_) (fun h4 => ?_))))))
 ·replace H := of_t H h4
  refine Ws (Wg (Wr 1 tk sg0 rfl rfl tv (Wn (Qn (Wt (QB.r (QT.r ?_)))))))
  cases H
  exact Ea rfl rfl rfl tv
 replace H := of_f H h4
 refine Ws (Wg (Wr 2 tk sg0 rfl rfl tv (Wn (Qn (Wc rfl (fun h5 => ?_) (fun h5 => ?_))))))
 ·replace H := of_t H h5
  refine Ws (Wg (Wr 1 tk sg0 rfl rfl tv (Wn (Qn (Wt (QB.r (QT.r ?_)))))))
  cases H
  exact Ea rfl rfl rfl tv
 replace H := of_f H h5
 refine Ws (Wg (Wr 2 tk sg0 rfl rfl tv (Wn (Qn (Wc rfl (fun h6 => ?_) (fun h6 => ?_))))))
 ·replace H := of_t H h6
  refine Ws (Wg (Wr 1 tk sg0 rfl rfl tv (Wn (Qn (Wt (QB.r (QT.r ?_)))))))
  cases H
  exact Ea rfl rfl rfl tv
 replace H := of_f H h6
 refine Ws (Wg (Wr 2 tk sg0 rfl rfl tv (Wn (Qn (Wc rfl (fun h7 => ?_) (fun h7 => ?_))))))
 ·replace H := of_t H h7
  refine Ws (Wg (Wr 1 tk sg0 rfl rfl tv (Wn (Qn (Wt (QB.r (QT.r ?_)))))))
  cases H
  exact Ea rfl rfl rfl tv
 replace H := of_f H h7
 refine Wk (Qb (Qn ?_))
 refine Ws (Wg (Wr 1 tk sg0 rfl rfl tv (Wn (Qn (Wt ?_)))))
 cases H
 exact Ea rfl rfl rfl tv
theorem decl_Name_f : hasFunc Tryd.prog 101 Tryd.f101 := ⟨Tryd.func101, rfl, by kernel_rfl⟩

theorem decl_num_0 (a0 : T_octet_In) {r : Int × T_octet_In} (H : decl_num a0 = some r) : LJ.Spec Tryd.prog 102 [.ptr 0 0] [(0, .box 160 [.d (.str a0.s), .d (.int .i64 a0.at_), .d (.int .i64 a0.err)])] (.d (.int .i64 r.1)) [(0, .box 160 [.d (.str r.2.s), .d (.int .i64 r.2.at_), .d (.int .i64 r.2.err)])] := by
 refine LJ.Spec.code Tryd.func102 rfl 7 rfl rfl [0] rfl fun w0 F0 S0 B0 => ?_
 unfold decl_num at H
 refine Ws (Wg (Wr 1 tk sg0 rfl rfl tv (Wn (Qn (Ws (Wg (Wr 1 tk sg0 rfl rfl tv ?_)))))))
 obtain ⟨x1, hx1, H⟩ := of_bind H
 refine Wf [] (octet_In_Num_s 0 rfl _ hx1) octet_In_Num_f rfl rfl ⟨rfl, tv⟩ rfl rfl rfl (WL.yv (LJ.Y.min rfl rfl rfl) rfl rfl rfl (Wr 2 tk sg0 rfl rfl tv (Wn (Qn (Wt ?_)))))
 cases H
 exact Ea rfl rfl rfl ⟨rfl, tv⟩
theorem decl_num_s (n0 : Nat) (hn : nodupB [n0] = true) (a0 : T_octet_In) {r : Int × T_octet_In} (H : decl_num a0 = some r) : LJ.Spec Tryd.prog 102 [.ptr n0 0] [(n0, .box 160 [.d (.str a0.s), .d (.int .i64 a0.at_), .d (.int .i64 a0.err)])] (.d (.int .i64 r.1)) [(n0, .box 160 [.d (.str r.2.s), .d (.int .i64 r.2.at_), .d (.int .i64 r.2.err)])] :=
 Spec.names [n0] hn rfl rfl (decl_num_0 a0 H)
theorem decl_num_f : hasFunc Tryd.prog 102 Tryd.f102 := ⟨Tryd.func102, rfl, by kernel_rfl⟩

theorem octet_In_Int_0 (a0 : T_octet_In) {r : Int × T_octet_In} (H : octet_In_Int a0 = some r) : LJ.Spec Tryd.prog 103 [.ptr 0 0] [(0, .box 160 [.d (.str a0.s), .d (.int .i64 a0.at_), .d (.int .i64 a0.err)])] (.d (.int .i64 r.1)) [(0, .box 160 [.d (.str r.2.s), .d (.int .i64 r.2.at_), .d (.int .i64 r.2.err)])] := by
 refine LJ.Spec.code Tryd.func103 rfl 14 rfl rfl [0] rfl fun w0 F0 S0 B0 => ?_
 unfold octet_In_Int at H
 refine Ws (Wg (Wr 1 tk sg0 rfl rfl tv (Wn (Qn (Ws (Wg (Wr 1 tk sg0 rfl rfl tv ?_)))))))
 obtain ⟨x1, hx1, H⟩ := of_bind H
 refine Wf [] (octet_In_Num_s 0 rfl _ hx1) octet_In_Num_f rfl rfl ⟨rfl, tv⟩ rfl rfl rfl (Wr 1 tk sg0 rfl rfl tv (Wn (Qn (Ws (Wg (Wr 9 tk sg0 rfl rfl tv (Wn (Qn (Wt ?_)))))))))
 cases H
 exact Ea rfl rfl rfl ⟨rfl, tv⟩
theorem octet_In_Int_s (n0 : Nat) (hn : nodupB [n0] = true) (a0 : T_octet_In) {r : Int × T_octet_In} (H : octet_In_Int a0 = some r) : LJ.Spec Tryd.prog 103 [.ptr n0 0] [(n0, .box 160 [.d (.str a0.s), .d (.int .i64 a0.at_), .d (.int .i64 a0.err)])] (.d (.int .i64 r.1)) [(n0, .box 160 [.d (.str r.2.s), .d (.int .i64 r.2.at_), .d (.int .i64 r.2.err)])] :=
 Spec.names [n0] hn rfl rfl (octet_In_Int_0 a0 H)
theorem octet_In_Int_f : hasFunc Tryd.prog 103 Tryd.f103 := ⟨Tryd.func103, rfl, by kernel_rfl⟩

theorem decl_read_0 (a0 : T_octet_In) {r : T_api_Decl × Int × T_octet_In} (H : decl_read a0 = some r) : LJ.Spec Tryd.prog 87 [.ptr 0 0] [(0, .box 160 [.d (.str a0.s), .d (.int .i64 a0.at_), .d (.int .i64 a0.err)])] (.tup [.d (.agg [.int .i64 r.1.Kind, .int .i64 r.1.A, .int .i64 r.1.B]), .d (.int .i64 r.2.1)]) [(0, .box 160 [.d (.str r.2.2.s), .d (.int .i64 r.2.2.at_), .d (.int .i64 r.2.2.err)])] := by
 refine LJ.Spec.code Tryd.func87 rfl 44 rfl rfl [0] rfl fun w0 F0 S0 B0 => ?_
 unfold decl_read at H
 refine Ws (Wg (Wa 102 tk rfl rfl rfl (Wr 1 tk sg0 rfl rfl tv (Wn (Qn (Ws (Wg (Wr 1 tk sg0 rfl rfl tv ?_))))))))
 obtain ⟨x1, hx1, H⟩ := of_bind H
 refine Wf [] (octet_In_Byte_s 0 rfl _ hx1) octet_In_Byte_f rfl rfl ⟨rfl, tv⟩ rfl rfl rfl (Wr 1 tk sg0 rfl rfl tv (Wa 104 tk rfl rfl rfl (We 0 tk ek eg0 rfl rfl rfl tv (Wn (Qn (Ws (Ws (Wg (Wr 1 tk sg0 rfl rfl tv ?_)))))))))
 obtain ⟨x2, hx2, H⟩ := of_bind H
 refine Wf [] (octet_In_Err_s 0 rfl _ hx2) octet_In_Err_f rfl rfl ⟨rfl, tv⟩ rfl rfl rfl (Wr 2 tk sg0 rfl rfl tv ?_)
 obtain ⟨x3, hx3, H⟩ := of_bind H
 refine Wx 4 3 true tk [PSig.at' decl_Name_f ((iEq x2 0) = true) rfl (fun hb => decl_Name_0 _ (of_t hx3 hb))] rfl rfl (fun hb => ⟨⟨hb, rfl⟩, tv⟩) (Wr 1 tk sg0 rfl rfl ⟨by first | exact id | exact fun h => by rw [h]; rfl | simp_all, tv⟩ (Wn (Qn (Wc rfl (fun h4 => ?_) (fun h4 => ?_)))))
 ·replace H := of_t H h4
  refine Ws (Wg (Wr 1 tk sg0 rfl rfl tv (We 0 tk ek eg0 rfl rfl rfl tv (Wr 1 tk sg0 rfl rfl tv (Wn (Qn (Wt (QT.r ?_))))))))
  cases H
  exact Ends.autoC tk rfl rfl rfl ⟨rfl, tv⟩
 replace H := of_f H h4
 refine Wk (Qn (Ws (Ws (Wg (Wr 2 tk sg0 rfl rfl tv (Wn (Qn (Wb (Ws (Wg (Wr 2 tk sg0 rfl rfl tv (Wn (Qn (Wc rfl (fun h5 => ?_) (fun h5 => ?_)))))))))))))))
 ·replace H := of_t H h5
  refine Ws (Wg (Wr 1 tk sg0 rfl rfl tv ?_))
  obtain ⟨x6, hx6, H⟩ := of_bind H
  refine Wf [] (decl_num_s 0 rfl _ hx6) decl_num_f rfl rfl ⟨rfl, tv⟩ rfl rfl rfl (Wr 1 tk sg0 rfl rfl tv (We 0 tk ek eg0 rfl rfl rfl tv (Wn (Qn (Wg (Wr 1 tk sg0 rfl rfl tv ?_))))))
  obtain ⟨x7, hx7, H⟩ := of_bind H
  refine Wf [] (decl_num_s 0 rfl _ hx7) decl_num_f rfl rfl ⟨rfl, tv⟩ rfl rfl rfl (Wr 1 tk sg0 rfl rfl tv (We 0 tk ek eg0 rfl rfl rfl tv (Wn (Qb (Qn ?_)))))
  refine Ws (Hp (.one 0 true (.one 1 true (.one 2 false (.one 3 false (.one 4 true .done))))) [0, 102, 104] [104] rfl (by kernel_rfl) rfl (by kernel_rfl) rfl rfl (fun _ h => h) rfl rfl rfl (fun _ _ _ h => h) fun FK NK wK K => (Hr 2 tk rfl rfl rfl rfl tv ?_))
  obtain ⟨x8, hx8, H⟩ := of_bind H
  refine WH.call [] rfl (octet_In_Err_s 0 rfl _ hx8) octet_In_Err_f rfl rfl ⟨rfl, tv⟩ rfl rfl rfl rfl rfl (He 0 tk ek rfl rfl rfl rfl tv rfl rfl (Hr 1 tk rfl rfl rfl rfl tv (WH.nil rfl (Qn (Wt ?_)))))
  cases H
  exact Ends.autoC tk rfl rfl rfl ⟨rfl, tv⟩
 replace H := of_f H h5
 refine Ws (Wg (Wr 2 tk sg0 rfl rfl tv (Wn (Qn (Wc rfl (fun h9 => ?_) (fun h9 => ?_))))))
 ·replace H := of_t H h9
  refine Wg (Wr 1 tk sg0 rfl rfl tv ?_)
  obtain ⟨x10, hx10, H⟩ := of_bind H
  refine Wf [] (decl_num_s 0 rfl _ hx10) decl_num_f rfl rfl ⟨rfl, tv⟩ rfl rfl rfl (Wr 1 tk sg0 rfl rfl tv (We 0 tk ek eg0 rfl rfl rfl tv (Wn (Qb (Qn ?_)))))
  refine Ws (Hp (.one 0 true (.one 1 true (.one 2 false (.one 3 false (.one 4 true .done))))) [0, 102, 104] [104] rfl (by kernel_rfl) rfl (by kernel_rfl) rfl rfl (fun _ h => h) rfl rfl rfl (fun _ _ _ h => h) fun FK NK wK K => (Hr 2 tk rfl rfl rfl rfl tv ?_))
  obtain ⟨x11, hx11, H⟩ := of_bind H
  refine WH.call [] rfl (octet_In_Err_s 0 rfl _ hx11) octet_In_Err_f rfl rfl ⟨rfl, tv⟩ rfl rfl rfl rfl rfl (He 0 tk ek rfl rfl rfl rfl tv rfl rfl (Hr 1 tk rfl rfl rfl rfl tv (WH.nil rfl (Qn (Wt ?_)))))
  cases H
  exact Ends.autoC tk rfl rfl rfl ⟨rfl, tv⟩
 replace H := of_f H h9
 refine Ws (Wg (Wr 2 tk sg0 rfl rfl tv (Wn (Qn (Wc rfl (fun h12 => ?_) (fun h12 => ?_))))))
 ·replace H := of_t H h12
  refine Ws (Wg (Wr 1 tk sg0 rfl rfl tv ?_))
  obtain ⟨x13, hx13, H⟩ := of_bind H
  refine Wf [] (octet_In_Int_s 0 rfl _ hx13) octet_In_Int_f rfl rfl ⟨rfl, tv⟩ rfl rfl rfl (Wr 1 tk sg0 rfl rfl tv (We 0 tk ek eg0 rfl rfl rfl tv (Wn (Qn (Wg (Wr 1 tk sg0 rfl rfl tv ?_))))))
  obtain ⟨x14, hx14, H⟩ := of_bind H
  refine Wf [] (decl_num_s 0 rfl _ hx14) decl_num_f rfl rfl ⟨rfl, tv⟩ rfl rfl rfl (Wr 1 tk sg0 rfl rfl tv (We 0 tk ek eg0 rfl rfl rfl tv (Wn (Qb (Qn ?_)))))
  refine Ws (Hp (.one 0 true (.one 1 true (.one 2 false (.one 3 false (.one 4 true .done))))) [0, 102, 104] [104] rfl (by kernel_rfl) rfl (by kernel_rfl) rfl rfl (fun _ h => h) rfl rfl rfl (fun _ _ _ h => h) fun FK NK wK K => (Hr 2 tk rfl rfl rfl rfl tv ?_))
  obtain ⟨x15, hx15, H⟩ := of_bind H
  refine WH.call [] rfl (octet_In_Err_s 0 rfl _ hx15) octet_In_Err_f rfl rfl ⟨rfl, tv⟩ rfl rfl rfl rfl rfl (He 0 tk ek rfl rfl rfl rfl tv rfl rfl (Hr 1 tk rfl rfl rfl rfl tv (WH.nil rfl (Qn (Wt ?_)))))
  cases H
  exact Ends.autoC tk rfl rfl rfl ⟨rfl, tv⟩
 replace H := of_f H h12
 refine Wk (Qb (Qn ?_))
 refine Ws (Hp (.one 0 true (.one 1 true (.one 2 false (.one 3 false (.one 4 true .done))))) [0, 102, 104] [104] rfl (by kernel_rfl) rfl (by kernel_rfl) rfl rfl (fun _ h => h) rfl rfl rfl (fun _ _ _ h => h) fun FK NK wK K => (Hr 2 tk rfl rfl rfl rfl tv ?_))
 obtain ⟨x16, hx16, H⟩ := of_bind H
 refine WH.call [] rfl (octet_In_Err_s 0 rfl _ hx16) octet_In_Err_f rfl rfl ⟨rfl, tv⟩ rfl rfl rfl rfl rfl (He 0 tk ek rfl rfl rfl rfl tv rfl rfl (Hr 1 tk rfl rfl rfl rfl tv (WH.nil rfl (Qn (Wt ?_)))))
 cases H
 exact Ends.autoC tk rfl rfl rfl ⟨rfl, tv⟩
theorem decl_read_s (n0 : Nat) (hn : nodupB [n0] = true) (a0 : T_octet_In) {r : T_api_Decl × Int × T_octet_In} (H : decl_read a0 = some r) : LJ.Spec Tryd.prog 87 [.ptr n0 0] [(n0, .box 160 [.d (.str a0.s), .d (.int .i64 a0.at_), .d (.int .i64 a0.err)])] (.tup [.d (.agg [.int .i64 r.1.Kind, .int .i64 r.1.A, .int .i64 r.1.B]), .d (.int .i64 r.2.1)]) [(n0, .box 160 [.d (.str r.2.2.s), .d (.int .i64 r.2.2.at_), .d (.int .i64 r.2.2.err)])] :=
 Spec.names [n0] hn rfl rfl (decl_read_0 a0 H)
theorem decl_read_f : hasFunc Tryd.prog 87 Tryd.f87 := ⟨Tryd.func87, rfl, by kernel_rfl⟩

theorem octet_In_Left_0 (a0 : T_octet_In) {r : Int} (H : octet_In_Left a0 = some r) : LJ.Spec Tryd.prog 88 [.ptr 0 0] [(0, .box 160 [.d (.str a0.s), .d (.int .i64 a0.at_), .d (.int .i64 a0.err)])] (.d (.int .i64 r)) [(0, .box 160 [.d (.str a0.s), .d (.int .i64 a0.at_), .d (.int .i64 a0.err)])] := by
 refine LJ.Spec.code Tryd.func88 rfl 15 rfl rfl [0] rfl fun w0 F0 S0 B0 => ?_
 unfold octet_In_Left at H
 refine Ws (Wg (Wr 1 tk sg0 rfl rfl tv (Wn (Qn (Ws (Ws (Wg (Wr 2 tk sg0 rfl rfl tv (Wn (Qn (Wc rfl (fun h => absurd h (by decide)) (fun h => ?_))))))))))))
 refine Wk (Qn (Ws (Hp (.one 0 true (.one 1 true (.one 2 true (.one 3 true (.one 4 true (.one 5 true (.one 6 true (.one 7 true (.one 8 true (.one 9 true (.one 10 true .done))))))))))) [0] [0] rfl (by kernel_rfl) rfl (by kernel_rfl) rfl rfl (fun _ h => h) rfl rfl rfl (fun _ _ _ h => h) fun FK NK wK K => (Hr 11 tk rfl rfl rfl rfl tv (WH.nil rfl (Qn (Wt ?_)))))))
 cases H
 exact Ea rfl rfl rfl ⟨rfl, tv⟩
theorem octet_In_Left_s (n0 : Nat) (hn : nodupB [n0] = true) (a0 : T_octet_In) {r : Int} (H : octet_In_Left a0 = some r) : LJ.Spec Tryd.prog 88 [.ptr n0 0] [(n0, .box 160 [.d (.str a0.s), .d (.int .i64 a0.at_), .d (.int .i64 a0.err)])] (.d (.int .i64 r)) [(n0, .box 160 [.d (.str a0.s), .d (.int .i64 a0.at_), .d (.int .i64 a0.err)])] :=
 Spec.names [n0] hn rfl rfl (octet_In_Left_0 a0 H)
theorem octet_In_Left_f : hasFunc Tryd.prog 88 Tryd.f88 := ⟨Tryd.func88, rfl, by kernel_rfl⟩

theorem decl_Get_0 (a0 : ByteArray) {r : (List T_api_Decl) × Int × Int} (H : decl_Get a0 = some r) : LJ.Spec Tryd.prog 57 [.d (.str a0)] [] (.tup [.d (slT enc_api_Decl r.1), .d (.int .i64 r.2.1), .d (.int .i64 r.2.2)]) [] := by
 refine LJ.Spec.code Tryd.func57 rfl 54 rfl rfl [] rfl fun w0 F0 S0 B0 => ?_
 unfold decl_Get at H
 refine Ws (Wg (Wr 3 tk sg0 rfl rfl tv (Wn (Qn (Ws (Wg (Wr 1 tk sg0 rfl rfl tv ?_)))))))
 obtain ⟨x1, hx1, H⟩ := of_bind H
 refine Wf [2140] (octet_Open_s 2140 rfl _ hx1) octet_Open_f rfl rfl tv rfl rfl rfl (Wr 1 tk sg0 rfl rfl tv (Wn (Qn (Ws (Wg (Wr 1 tk sg0 rfl rfl tv ?_))))))
 obtain ⟨x2, hx2, H⟩ := of_bind H
 refine Wf [] (octet_In_Num_s 2140 rfl _ hx2) octet_In_Num_f rfl rfl ⟨rfl, tv⟩ rfl rfl rfl (Wr 1 tk sg0 rfl rfl tv (Wn (Qn (Ws (Ws (Wg (Wr 1 tk sg0 rfl rfl tv ?_)))))))
 obtain ⟨x3, hx3, H⟩ := of_bind H
 refine Wf [] (octet_In_Err_s 2140 rfl _ hx3) octet_In_Err_f rfl rfl ⟨rfl, tv⟩ rfl rfl rfl (Wr 1 tk sg0 rfl rfl tv (Wn (Qn (Ws (Wg (Wr 2 tk sg0 rfl rfl tv (Wn (Qn (Wc rfl (fun h4 => ?_) (fun h4 => ?_))))))))))
 ·replace H := of_t H h4
  refine Ws (Wg (Wr 4 tk sg0 rfl rfl tv (Wn (Qn (WC.nilT 2 enc_api_Decl rfl (Wt (QT.r ?_)))))))
  cases H
  exact Ea rfl rfl rfl tv
 replace H := of_f H h4
 refine Wk (Qn (Ws (Ws (Wg (Wr 2 tk sg0 rfl rfl tv (Wn (Qn (Wc rfl (fun h5 => ?_) (fun h5 => ?_)))))))))
 ·replace H := of_t H h5
  refine Ws (Wg (Wr 3 tk sg0 rfl rfl tv (Wn (Qn (WC.nilT 2 enc_api_Decl rfl (Wt (QT.r ?_)))))))
  cases H
  exact Ea rfl rfl rfl tv
 replace H := of_f H h5
 refine Wk (Qn (Ws (Wg (Wr 1 tk sg0 rfl rfl tv (Wn (Qn (Ws (Ws (Wg (Wr 2 tk sg0 rfl rfl tv (Wn (Qn (Wb (WC.nilrow (t := 8) 1035 44 3 rfl rfl rfl (Wl (ι := {x : Nat × (Int × (List T_api_Decl) × ByteArray × Int × Int) // decl_Get_l8 a0 x2 x.1 x.2 = some r}) (fun x => [(0, .d (.str a0)), (5, .ptr 2140 0), (8, .own 1035), (24, .d (.int .u64 x2.1)), (25, .d (.int .u64 x.1.2.1))]) (fun x => [(1035, .row 44 3 (x.1.2.2.1.map enc_api_Decl)), (2140, .box 160 [.d (.str x.1.2.2.2.1), .d (.int .i64 x.1.2.2.2.2.1), .d (.int .i64 x.1.2.2.2.2.2)])]) (fun x => x.1.1) ⟨(fuel, (0, ([] : List T_api_Decl), x2.2.s, x2.2.at_, x2.2.err)), H⟩ (Less.mk' ⟨rfl, rfl, rfl, rfl, rfl, tv⟩ ⟨rfl, rfl, tv⟩) fun x => ?_)))))))))))))))
 obtain ⟨⟨k8, s7⟩, H⟩ := x
 rcases k8 with _ | k8
 ·exact of_none H
 rw [decl_Get_l8] at H
 refine Ws (Wg (Wr 1 tk sg0 rfl rfl tv (Wn (Qn (Ws (Wc rfl (fun h9 => ?_) (fun h9 => ?_)))))))
 ·replace H := of_t H h9
  refine Wk (Qn (Ws (Wb (Ws (Wg (Wr 1 tk sg0 rfl rfl tv ?_))))))
  obtain ⟨x10, hx10, H⟩ := of_bind H
  refine Wf [] (decl_read_s 2140 rfl _ hx10) decl_read_f rfl rfl ⟨rfl, tv⟩ rfl rfl rfl (Wr 3 tk sg0 rfl rfl tv (Wa 109 tk rfl rfl rfl (We 0 tk ek eg0 rfl rfl rfl tv (Wr 1 tk sg0 rfl rfl tv (Wn (Qn (Ws (Ws (Wg (Wr 2 tk sg0 rfl rfl tv (Wn (Qn (Wc rfl (fun h11 => ?_) (fun h11 => ?_))))))))))))))
  ·replace H := of_t H h11
   refine Ws (Wg (Wr 4 tk sg0 rfl rfl tv (Wn (Qn (WC.nilT 2 enc_api_Decl rfl (Wt (QT.r (QB.r (QT.r (QT.r (QB.r (QT.r ?_))))))))))))
   cases H
   exact Ea rfl rfl rfl tv
  replace H := of_f H h11
  refine Wk (Qn (Wg (Wr 2 tk sg0 rfl rfl tv (We 137 tk ek eg0 rfl rfl rfl tv (WL.freezeT 137 enc_api_Decl ([x10.1] : List T_api_Decl) rfl rfl rfl rfl ?_)))))
  obtain ⟨g12, H⟩ := of_need H
  refine WL.appT enc_api_Decl s7.2.1 ([x10.1] : List T_api_Decl) tk ek rfl rfl (fun _ => rfl) (fun _ => rfl) rfl rfl rfl rfl (nCap_ok g12) rfl rfl rfl rfl rfl ?_
  refine Wr 1 tk sg0 rfl rfl tv (Wn (Qb (Qn ?_)))
  exact Wg (Wr 2 tk sg0 rfl rfl tv (Wn (Qn (⟨⟨(k8, (IntKind.u64.wrap (s7.1 + 1), s7.2.1 ++ ([x10.1] : List T_api_Decl), x10.2.2.s, x10.2.2.at_, x10.2.2.err)), H⟩, Nat.lt_succ_self _, Less.mk' ⟨rfl, rfl, rfl, rfl, rfl, tv⟩ ⟨rfl, rfl, tv⟩⟩))))
 replace H := of_f H h9
 refine WC.exit (Qx (Qx (Qh (Qn ?_))))
 refine Ws (Ws (Wg (Wr 1 tk sg0 rfl rfl tv (WL.freezeT 1035 enc_api_Decl s7.2.1 rfl rfl rfl rfl ?_))))
 obtain ⟨x13, hx13, H⟩ := of_bind H
 refine Wf [] (decl_Check_0 _ hx13) decl_Check_f rfl rfl tv rfl rfl rfl (Wr 5 tk sg0 rfl rfl tv (Wn (Qn (Ws (Wg (Wr 2 tk sg0 rfl rfl tv (Wn (Qn (Wc rfl (fun h14 => ?_) (fun h14 => ?_))))))))))
 ·replace H := of_t H h14
  refine Ws (Wg (Wr 4 tk sg0 rfl rfl tv (Wn (Qn (WC.nilT 2 enc_api_Decl rfl (Wt (QT.r ?_)))))))
  cases H
  exact Ea rfl rfl rfl tv
 replace H := of_f H h14
 refine Wk (Qn (Ws (Wg (Wr 4 tk sg0 rfl rfl tv ?_))))
 obtain ⟨x15, hx15, H⟩ := of_bind H
 refine Wf [] (octet_In_Left_s 2140 rfl _ hx15) octet_In_Left_f rfl rfl ⟨rfl, tv⟩ rfl rfl rfl (Wr 4 tk sg0 rfl rfl tv (Wn (Qn (Wt ?_))))
 cases H
 exact Ea rfl rfl rfl tv
theorem decl_Get_f : hasFunc Tryd.prog 57 Tryd.f57 := ⟨Tryd.func57, rfl, by kernel_rfl⟩

theorem prog_reader_took_S (a0 : T_prog_reader) (a1 : Int) (a2 : Int) {z : Int ⊕ T_prog_reader} (H : prog_reader_took a0 a1 a2 = some z) : LJ.SpecS Tryd.prog 58 [.ptr 0 0, .d (.int .i64 a1), .d (.int .i64 a2)] [(0, .box 84 [.d (.str a0.s)])] (fun e => .iface 79 (.agg #[.int .i64 e])) (fun (r : T_prog_reader) => (.tup [], [(0, .box 84 [.d (.str r.s)])])) z := by
 refine LJ.SpecS.code Tryd.func58 rfl 20 rfl rfl [0] rfl fun w0 F0 S0 B0 => ?_
 unfold prog_reader_took at H
 refine Ws (Ws (Wg (Wr 2 tk sg0 rfl rfl tv (Wn (Qn (Wc rfl (fun h1 => ?_) (fun h1 => ?_)))))))
 ·replace H := of_t H h1
  refine Wg (Wr 2 tk sg0 rfl rfl tv ?_)
  cases H
  exact WL.panicI rfl rfl rfl rfl rfl rfl rfl (by kernel_rfl) ⟨_, rfl, rfl⟩
 replace H := of_f H h1
 refine Wk (Qn (Wg ?_))
 obtain ⟨g2, H⟩ := of_need H
 refine Wr 9 tk sg0 rfl rfl ⟨(nTo_ok g2), tv⟩ (We 0 tk ek eg0 rfl rfl rfl tv (Wn ?_))
 cases H
 refine ⟨_, rfl, ?_⟩
 exact Ends.auton rfl rfl rfl ⟨rfl, tv⟩
theorem prog_reader_took_0 (a0 : T_prog_reader) (a1 : Int) (a2 : Int) {r : T_prog_reader} (H : prog_reader_took a0 a1 a2 = some (.inr r)) : LJ.Spec Tryd.prog 58 [.ptr 0 0, .d (.int .i64 a1), .d (.int .i64 a2)] [(0, .box 84 [.d (.str a0.s)])] (.tup []) [(0, .box 84 [.d (.str r.s)])] := prog_reader_took_S a0 a1 a2 H
theorem prog_reader_took_p (a0 : T_prog_reader) (a1 : Int) (a2 : Int) {e : Int} (H : prog_reader_took a0 a1 a2 = some (.inl e)) : LJ.Panics Tryd.prog 58 [.ptr 0 0, .d (.int .i64 a1), .d (.int .i64 a2)] [(0, .box 84 [.d (.str a0.s)])] (.iface 79 (.agg #[.int .i64 e])) := prog_reader_took_S a0 a1 a2 H
theorem prog_reader_took_s (n0 : Nat) (hn : nodupB [n0] = true) (a0 : T_prog_reader) (a1 : Int) (a2 : Int) {r : T_prog_reader} (H : prog_reader_took a0 a1 a2 = some (.inr r)) : LJ.Spec Tryd.prog 58 [.ptr n0 0, .d (.int .i64 a1), .d (.int .i64 a2)] [(n0, .box 84 [.d (.str a0.s)])] (.tup []) [(n0, .box 84 [.d (.str r.s)])] :=
 Spec.names [n0] hn rfl rfl (prog_reader_took_0 a0 a1 a2 H)
theorem prog_reader_took_f : hasFunc Tryd.prog 58 Tryd.f58 := ⟨Tryd.func58, rfl, by kernel_rfl⟩

theorem prog_reader_num_S (a0 : T_prog_reader) {z : Int ⊕ (Int × T_prog_reader)} (H : prog_reader_num a0 = some z) : LJ.SpecS Tryd.prog 89 [.ptr 0 0] [(0, .box 84 [.d (.str a0.s)])] (fun e => .iface 79 (.agg #[.int .i64 e])) (fun (r : Int × T_prog_reader) => (.d (.int .i64 r.1), [(0, .box 84 [.d (.str r.2.s)])])) z := by
 refine LJ.SpecS.code Tryd.func89 rfl 27 rfl rfl [0] rfl fun w0 F0 S0 B0 => ?_
 unfold prog_reader_num at H
 refine Ws (Wg (Wr 1 tk sg0 rfl rfl tv (Wn (Qn (Ws (Wg (Wr 4 tk sg0 rfl rfl tv ?_)))))))
 obtain ⟨x1, hx1, H⟩ := of_bind H
 refine Wf [2090] (octet_Open_s 2090 rfl _ hx1) octet_Open_f rfl rfl tv rfl rfl rfl (Wr 1 tk sg0 rfl rfl tv (Wn (Qn (Ws (Wg (Wr 1 tk sg0 rfl rfl tv ?_))))))
 obtain ⟨x2, hx2, H⟩ := of_bind H
 refine Wf [] (octet_In_Num_s 2090 rfl _ hx2) octet_In_Num_f rfl rfl ⟨rfl, tv⟩ rfl rfl rfl (Wr 1 tk sg0 rfl rfl tv (Wn (Qn (Ws ?_))))
 obtain ⟨x3_7_1, hx3_7_1, H⟩ := of_bind H
 obtain ⟨x3_10_1, hx3_10_1, H⟩ := of_bind H
 rcases of_pbind H with ⟨e, hx3_11_1, rfl⟩ | ⟨x3_11_1r, hx3_11_1, H⟩
 ·refine Hp (.one 0 true (.one 1 true (.one 2 true (.one 3 true (.one 6 true (.one 9 true (.fork (.one 4 false (.one 5 true (.one 7 false (.one 8 true (.one 10 false (.one 11 false .done)))))) (.one 7 false (.fork (.one 4 false (.one 5 true (.one 8 true (.one 10 false (.one 11 false .done))))) (.one 10 false (.one 4 false (.one 5 true (.one 8 true (.one 11 false .done)))))))))))))) [0, 2090] [] rfl (by kernel_rfl) rfl (by kernel_rfl) rfl rfl (fun _ h => h) rfl rfl rfl (fun _ _ _ h => h) fun FK NK wK K => (Hr 6 tk rfl rfl rfl rfl tv (WH.fork ?_ ?_))
  ·exact WH.val tk rfl rfl rfl rfl rfl tv rfl rfl (Hr 1 tk rfl rfl rfl rfl tv (WH.call [] rfl (octet_In_Left_s 2090 rfl _ hx3_7_1) octet_In_Left_f rfl rfl ⟨rfl, tv⟩ rfl rfl rfl rfl rfl (Hr 1 tk rfl rfl rfl rfl tv (WH.call [] rfl (octet_In_Err_s 2090 rfl _ hx3_10_1) octet_In_Err_f rfl rfl ⟨rfl, tv⟩ rfl rfl rfl rfl rfl (WH.callP rfl (prog_reader_took_p _ _ _ hx3_11_1) prog_reader_took_f rfl rfl ⟨rfl, tv⟩ rfl rfl rfl ⟨_, rfl, rfl⟩)))))
  ·refine WH.call [] rfl (octet_In_Left_s 2090 rfl _ hx3_7_1) octet_In_Left_f rfl rfl ⟨rfl, tv⟩ rfl rfl rfl rfl rfl (WH.fork ?_ ?_)
   ·exact WH.val tk rfl rfl rfl rfl rfl tv rfl rfl (Hr 2 tk rfl rfl rfl rfl tv (WH.call [] rfl (octet_In_Err_s 2090 rfl _ hx3_10_1) octet_In_Err_f rfl rfl ⟨rfl, tv⟩ rfl rfl rfl rfl rfl (WH.callP rfl (prog_reader_took_p _ _ _ hx3_11_1) prog_reader_took_f rfl rfl ⟨rfl, tv⟩ rfl rfl rfl ⟨_, rfl, rfl⟩)))
   ·exact WH.call [] rfl (octet_In_Err_s 2090 rfl _ hx3_10_1) octet_In_Err_f rfl rfl ⟨rfl, tv⟩ rfl rfl rfl rfl rfl (WH.val tk rfl rfl rfl rfl rfl tv rfl rfl (Hr 2 tk rfl rfl rfl rfl tv (WH.callP rfl (prog_reader_took_p _ _ _ hx3_11_1) prog_reader_took_f rfl rfl ⟨rfl, tv⟩ rfl rfl rfl ⟨_, rfl, rfl⟩)))
 refine WC.heldF [(4, .d (.int .u64 x2.1))] [(0, .box 84 [.d (.str x3_11_1r.s)])] (.one 0 true (.one 1 true (.one 2 true (.one 3 true (.one 6 true (.one 9 true (.fork (.one 4 false (.one 5 true (.one 7 false (.one 8 true (.one 10 false (.one 11 false .done)))))) (.one 7 false (.fork (.one 4 false (.one 5 true (.one 8 true (.one 10 false (.one 11 false .done))))) (.one 10 false (.one 4 false (.one 5 true (.one 8 true (.one 11 false .done)))))))))))))) [0, 2090] [] rfl (by kernel_rfl) rfl (by kernel_rfl) rfl rfl (fun _ h => h) rfl rfl rfl (fun FK NK wK K => ?_) ?_
 ·refine Hr 6 tk rfl rfl rfl rfl tv (WH.fork ?_ ?_)
  ·exact WH.val tk rfl rfl rfl rfl rfl tv rfl rfl (Hr 1 tk rfl rfl rfl rfl tv (WH.call [] rfl (octet_In_Left_s 2090 rfl _ hx3_7_1) octet_In_Left_f rfl rfl ⟨rfl, tv⟩ rfl rfl rfl rfl rfl (Hr 1 tk rfl rfl rfl rfl tv (WH.call [] rfl (octet_In_Err_s 2090 rfl _ hx3_10_1) octet_In_Err_f rfl rfl ⟨rfl, tv⟩ rfl rfl rfl rfl rfl (WH.call [] rfl (prog_reader_took_s 0 rfl _ _ _ hx3_11_1) prog_reader_took_f rfl rfl ⟨rfl, tv⟩ rfl rfl rfl rfl rfl (Hn rfl (LessW.mk' ⟨Ao rfl, tv⟩ ⟨rfl, tv⟩)))))))
  ·refine WH.call [] rfl (octet_In_Left_s 2090 rfl _ hx3_7_1) octet_In_Left_f rfl rfl ⟨rfl, tv⟩ rfl rfl rfl rfl rfl (WH.fork ?_ ?_)
   ·exact WH.val tk rfl rfl rfl rfl rfl tv rfl rfl (Hr 2 tk rfl rfl rfl rfl tv (WH.call [] rfl (octet_In_Err_s 2090 rfl _ hx3_10_1) octet_In_Err_f rfl rfl ⟨rfl, tv⟩ rfl rfl rfl rfl rfl (WH.call [] rfl (prog_reader_took_s 0 rfl _ _ _ hx3_11_1) prog_reader_took_f rfl rfl ⟨rfl, tv⟩ rfl rfl rfl rfl rfl (Hn rfl (LessW.mk' ⟨Ao rfl, tv⟩ ⟨rfl, tv⟩)))))
   ·exact WH.call [] rfl (octet_In_Err_s 2090 rfl _ hx3_10_1) octet_In_Err_f rfl rfl ⟨rfl, tv⟩ rfl rfl rfl rfl rfl (WH.val tk rfl rfl rfl rfl rfl tv rfl rfl (Hr 2 tk rfl rfl rfl rfl tv (WH.call [] rfl (prog_reader_took_s 0 rfl _ _ _ hx3_11_1) prog_reader_took_f rfl rfl ⟨rfl, tv⟩ rfl rfl rfl rfl rfl (Hn rfl (LessW.mk' ⟨Ao rfl, tv⟩ ⟨rfl, tv⟩)))))
 ·refine Qn (Ws (Wg (Wr 1 tk sg0 rfl rfl tv (WL.yv (LJ.Y.min rfl rfl rfl) rfl rfl rfl (Wr 2 tk sg0 rfl rfl tv (Wn (Qn (Wt ?_))))))))
  cases H
  refine ⟨_, rfl, ?_⟩
  exact Ea rfl rfl rfl ⟨rfl, tv⟩
theorem prog_reader_num_0 (a0 : T_prog_reader) {r : Int × T_prog_reader} (H : prog_reader_num a0 = some (.inr r)) : LJ.Spec Tryd.prog 89 [.ptr 0 0] [(0, .box 84 [.d (.str a0.s)])] (.d (.int .i64 r.1)) [(0, .box 84 [.d (.str r.2.s)])] := prog_reader_num_S a0 H
theorem prog_reader_num_p (a0 : T_prog_reader) {e : Int} (H : prog_reader_num a0 = some (.inl e)) : LJ.Panics Tryd.prog 89 [.ptr 0 0] [(0, .box 84 [.d (.str a0.s)])] (.iface 79 (.agg #[.int .i64 e])) := prog_reader_num_S a0 H
theorem prog_reader_num_s (n0 : Nat) (hn : nodupB [n0] = true) (a0 : T_prog_reader) {r : Int × T_prog_reader} (H : prog_reader_num a0 = some (.inr r)) : LJ.Spec Tryd.prog 89 [.ptr n0 0] [(n0, .box 84 [.d (.str a0.s)])] (.d (.int .i64 r.1)) [(n0, .box 84 [.d (.str r.2.s)])] :=
 Spec.names [n0] hn rfl rfl (prog_reader_num_0 a0 H)
theorem prog_reader_num_f : hasFunc Tryd.prog 89 Tryd.f89 := ⟨Tryd.func89, rfl, by kernel_rfl⟩

theorem prog_reader_many_S (a0 : T_prog_reader) (a1 : Int) {z : Int ⊕ (Int × T_prog_reader)} (H : prog_reader_many a0 a1 = some z) : LJ.SpecS Tryd.prog 59 [.ptr 0 0, .d (.int .i64 a1)] [(0, .box 84 [.d (.str a0.s)])] (fun e => .iface 79 (.agg #[.int .i64 e])) (fun (r : Int × T_prog_reader) => (.d (.int .i64 r.1), [(0, .box 84 [.d (.str r.2.s)])])) z := by
 refine LJ.SpecS.code Tryd.func59 rfl 14 rfl rfl [0] rfl fun w0 F0 S0 B0 => ?_
 unfold prog_reader_many at H
 refine Ws (Wg (Wr 1 tk sg0 rfl rfl tv (Wn (Qn (Ws (Wg (Wr 1 tk sg0 rfl rfl tv ?_)))))))
 rcases of_pbind H with ⟨e, hx1, rfl⟩ | ⟨x1r, hx1, H⟩
 ·exact WL.callP (prog_reader_num_p _ hx1) prog_reader_num_f rfl rfl ⟨rfl, tv⟩ rfl rfl ⟨_, rfl, rfl⟩
 refine Wf [] (prog_reader_num_s 0 rfl _ hx1) prog_reader_num_f rfl rfl ⟨rfl, tv⟩ rfl rfl rfl (Wr 1 tk sg0 rfl rfl tv (Wn (Qn (Ws (Ws (Wg (Wr 3 tk sg0 rfl rfl tv (Wn (Qn (Wc rfl (fun h2 => ?_) (fun h2 => ?_)))))))))))
 ·replace H := of_t H h2
  refine Wg (Wr 1 tk sg0 rfl rfl tv ?_)
  cases H
  exact WL.panicI rfl rfl rfl rfl rfl rfl rfl (by kernel_rfl) ⟨_, rfl, rfl⟩
 replace H := of_f H h2
 refine Wk (Qn (Ws (Wg (Wr 2 tk sg0 rfl rfl tv (Wn (Qn (Wt ?_)))))))
 cases H
 refine ⟨_, rfl, ?_⟩
 exact Ea rfl rfl rfl ⟨rfl, tv⟩
theorem prog_reader_many_0 (a0 : T_prog_reader) (a1 : Int) {r : Int × T_prog_reader} (H : prog_reader_many a0 a1 = some (.inr r)) : LJ.Spec Tryd.prog 59 [.ptr 0 0, .d (.int .i64 a1)] [(0, .box 84 [.d (.str a0.s)])] (.d (.int .i64 r.1)) [(0, .box 84 [.d (.str r.2.s)])] := prog_reader_many_S a0 a1 H
theorem prog_reader_many_p (a0 : T_prog_reader) (a1 : Int) {e : Int} (H : prog_reader_many a0 a1 = some (.inl e)) : LJ.Panics Tryd.prog 59 [.ptr 0 0, .d (.int .i64 a1)] [(0, .box 84 [.d (.str a0.s)])] (.iface 79 (.agg #[.int .i64 e])) := prog_reader_many_S a0 a1 H
theorem prog_reader_many_s (n0 : Nat) (hn : nodupB [n0] = true) (a0 : T_prog_reader) (a1 : Int) {r : Int × T_prog_reader} (H : prog_reader_many a0 a1 = some (.inr r)) : LJ.Spec Tryd.prog 59 [.ptr n0 0, .d (.int .i64 a1)] [(n0, .box 84 [.d (.str a0.s)])] (.d (.int .i64 r.1)) [(n0, .box 84 [.d (.str r.2.s)])] :=
 Spec.names [n0] hn rfl rfl (prog_reader_many_0 a0 a1 H)
theorem prog_reader_many_f : hasFunc Tryd.prog 59 Tryd.f59 := ⟨Tryd.func59, rfl, by kernel_rfl⟩

theorem need_many_0 (a0 : T_octet_In) (a1 : Int) {r : Int × Int × T_octet_In} (H : need_many a0 a1 = some r) : LJ.Spec Tryd.prog 90 [.ptr 0 0, .d (.int .u64 a1)] [(0, .box 160 [.d (.str a0.s), .d (.int .i64 a0.at_), .d (.int .i64 a0.err)])] (.tup [.d (.int .i64 r.1), .d (.int .i64 r.2.1)]) [(0, .box 160 [.d (.str r.2.2.s), .d (.int .i64 r.2.2.at_), .d (.int .i64 r.2.2.err)])] := by
 refine LJ.Spec.code Tryd.func90 rfl 16 rfl rfl [0] rfl fun w0 F0 S0 B0 => ?_
 unfold need_many at H
 refine Ws (Wg (Wr 2 tk sg0 rfl rfl tv (Wn (Qn (Ws (Wg (Wr 1 tk sg0 rfl rfl tv ?_)))))))
 obtain ⟨x1, hx1, H⟩ := of_bind H
 refine Wf [] (octet_In_Num_s 0 rfl _ hx1) octet_In_Num_f rfl rfl ⟨rfl, tv⟩ rfl rfl rfl (Wr 1 tk sg0 rfl rfl tv (Wn (Qn (Ws (Ws (Wg (Wr 3 tk sg0 rfl rfl tv (Wn (Qn (Wc rfl (fun h2 => ?_) (fun h2 => ?_)))))))))))
 ·replace H := of_t H h2
  refine Ws (Wg (Wr 2 tk sg0 rfl rfl tv (Wn (Qn (Wt (QT.r ?_))))))
  cases H
  exact Ea rfl rfl rfl ⟨rfl, tv⟩
 replace H := of_f H h2
 refine Wk (Qn (Ws (Wg (Wr 3 tk sg0 rfl rfl tv ?_))))
 obtain ⟨x3, hx3, H⟩ := of_bind H
 refine Wf [] (octet_In_Err_s 0 rfl _ hx3) octet_In_Err_f rfl rfl ⟨rfl, tv⟩ rfl rfl rfl (Wr 2 tk sg0 rfl rfl tv (Wn (Qn (Wt ?_))))
 cases H
 exact Ea rfl rfl rfl ⟨rfl, tv⟩
theorem need_many_s (n0 : Nat) (hn : nodupB [n0] = true) (a0 : T_octet_In) (a1 : Int) {r : Int × Int × T_octet_In} (H : need_many a0 a1 = some r) : LJ.Spec Tryd.prog 90 [.ptr n0 0, .d (.int .u64 a1)] [(n0, .box 160 [.d (.str a0.s), .d (.int .i64 a0.at_), .d (.int .i64 a0.err)])] (.tup [.d (.int .i64 r.1), .d (.int .i64 r.2.1)]) [(n0, .box 160 [.d (.str r.2.2.s), .d (.int .i64 r.2.2.at_), .d (.int .i64 r.2.2.err)])] :=
 Spec.names [n0] hn rfl rfl (need_many_0 a0 a1 H)
theorem need_many_f : hasFunc Tryd.prog 90 Tryd.f90 := ⟨Tryd.func90, rfl, by kernel_rfl⟩

theorem need_read_0 (a0 : T_octet_In) {r : T_api_Need × Int × T_octet_In} (H : need_read a0 = some r) : LJ.Spec Tryd.prog 91 [.ptr 0 0] [(0, .box 160 [.d (.str a0.s), .d (.int .i64 a0.at_), .d (.int .i64 a0.err)])] (.tup [.d (.agg [.int .i64 r.1.Kind, .int .i64 r.1.Obj, .int .i64 r.1.N]), .d (.int .i64 r.2.1)]) [(0, .box 160 [.d (.str r.2.2.s), .d (.int .i64 r.2.2.at_), .d (.int .i64 r.2.2.err)])] := by
 refine LJ.Spec.code Tryd.func91 rfl 40 rfl rfl [0] rfl fun w0 F0 S0 B0 => ?_
 unfold need_read at H
 refine Ws (Wg (Wa 102 tk rfl rfl rfl (Wr 1 tk sg0 rfl rfl tv (Wn (Qn (Ws (Wg (Wr 1 tk sg0 rfl rfl tv ?_))))))))
 obtain ⟨x1, hx1, H⟩ := of_bind H
 refine Wf [] (octet_In_Byte_s 0 rfl _ hx1) octet_In_Byte_f rfl rfl ⟨rfl, tv⟩ rfl rfl rfl (Wr 1 tk sg0 rfl rfl tv (Wa 104 tk rfl rfl rfl (We 0 tk ek eg0 rfl rfl rfl tv (Wn (Qn (Ws (Ws (Wg (Wr 1 tk sg0 rfl rfl tv ?_)))))))))
 obtain ⟨x2, hx2, H⟩ := of_bind H
 refine Wf [] (octet_In_Err_s 0 rfl _ hx2) octet_In_Err_f rfl rfl ⟨rfl, tv⟩ rfl rfl rfl (Wr 1 tk sg0 rfl rfl tv (Wn (Qn (Ws (Wg (Wr 2 tk sg0 rfl rfl tv (Wn (Qn (Wc rfl (fun h3 => ?_) (fun h3 => ?_))))))))))
 ·replace H := of_t H h3
  refine Ws (Wg (Wr 2 tk sg0 rfl rfl tv (We 0 tk ek eg0 rfl rfl rfl tv (Wr 1 tk sg0 rfl rfl tv (Wn (Qn (Wt (QT.r ?_))))))))
  cases H
  exact Ends.autoC tk rfl rfl rfl ⟨rfl, tv⟩
 replace H := of_f H h3
 refine Wk (Qn (Ws (Ws (Wg (Wr 4 tk sg0 rfl rfl tv (Wx 3 3 false tk sg0 rfl rfl (fun _ => tv) (Wr 1 tk sg0 rfl rfl ⟨by first | exact id | exact fun h => by rw [h]; rfl | simp_all, tv⟩ (Wn (Qn (Wc rfl (fun h4 => ?_) (fun h4 => ?_)))))))))))
 ·replace H := of_t H h4
  refine Ws (Wg (Wr 1 tk sg0 rfl rfl tv (We 0 tk ek eg0 rfl rfl rfl tv (Wr 1 tk sg0 rfl rfl tv (Wn (Qn (Wt (QT.r ?_))))))))
  cases H
  exact Ends.autoC tk rfl rfl rfl ⟨rfl, tv⟩
 replace H := of_f H h4
 refine Wk (Qn (Ws (Wg (Wr 1 tk sg0 rfl rfl tv ?_))))
 obtain ⟨x5, hx5, H⟩ := of_bind H
 refine Wf [] (octet_In_Num_s 0 rfl _ hx5) octet_In_Num_f rfl rfl ⟨rfl, tv⟩ rfl rfl rfl (WL.yv (LJ.Y.min rfl rfl rfl) rfl rfl rfl (Wr 2 tk sg0 rfl rfl tv (We 0 tk ek eg0 rfl rfl rfl tv (Wn (Qn (Ws (Ws (Wg (Wr 2 tk sg0 rfl rfl tv ?_)))))))))
 obtain ⟨x6, hx6, H⟩ := of_bind H
 refine Wf [] (need_counted_0 _ hx6) need_counted_f rfl rfl tv rfl rfl rfl (Wn (Qn (Wc rfl (fun h7 => ?_) (fun h7 => ?_))))
 ·replace H := of_t H h7
  refine Wg (Wr 1 tk sg0 rfl rfl tv ?_)
  obtain ⟨x8, hx8, H⟩ := of_bind H
  refine Wf [] (octet_In_Num_s 0 rfl _ hx8) octet_In_Num_f rfl rfl ⟨rfl, tv⟩ rfl rfl rfl (WL.yv (LJ.Y.min rfl rfl rfl) rfl rfl rfl (Wr 2 tk sg0 rfl rfl tv (We 0 tk ek eg0 rfl rfl rfl tv (Wn (Qn (Ws (Hp (.one 0 true (.one 1 true (.one 2 false (.one 3 false (.one 4 true .done))))) [0, 102, 104] [104] rfl (by kernel_rfl) rfl (by kernel_rfl) rfl rfl (fun _ h => h) rfl rfl rfl (fun _ _ _ h => h) fun FK NK wK K => (Hr 2 tk rfl rfl rfl rfl tv ?_))))))))
  obtain ⟨x9, hx9, H⟩ := of_bind H
  refine WH.call [] rfl (octet_In_Err_s 0 rfl _ hx9) octet_In_Err_f rfl rfl ⟨rfl, tv⟩ rfl rfl rfl rfl rfl (He 0 tk ek rfl rfl rfl rfl tv rfl rfl (Hr 1 tk rfl rfl rfl rfl tv (WH.nil rfl (Qn (Wt ?_)))))
  cases H
  exact Ends.autoC tk rfl rfl rfl ⟨rfl, tv⟩
 replace H := of_f H h7
 refine Wk (Qn (Ws (Hp (.one 0 true (.one 1 true (.one 2 false (.one 3 false (.one 4 true .done))))) [0, 102, 104] [104] rfl (by kernel_rfl) rfl (by kernel_rfl) rfl rfl (fun _ h => h) rfl rfl rfl (fun _ _ _ h => h) fun FK NK wK K => (Hr 2 tk rfl rfl rfl rfl tv ?_))))
 obtain ⟨x10, hx10, H⟩ := of_bind H
 refine WH.call [] rfl (octet_In_Err_s 0 rfl _ hx10) octet_In_Err_f rfl rfl ⟨rfl, tv⟩ rfl rfl rfl rfl rfl (He 0 tk ek rfl rfl rfl rfl tv rfl rfl (Hr 1 tk rfl rfl rfl rfl tv (WH.nil rfl (Qn (Wt ?_)))))
 cases H
 exact Ends.autoC tk rfl rfl rfl ⟨rfl, tv⟩
theorem need_read_s (n0 : Nat) (hn : nodupB [n0] = true) (a0 : T_octet_In) {r : T_api_Need × Int × T_octet_In} (H : need_read a0 = some r) : LJ.Spec Tryd.prog 91 [.ptr n0 0] [(n0, .box 160 [.d (.str a0.s), .d (.int .i64 a0.at_), .d (.int .i64 a0.err)])] (.tup [.d (.agg [.int .i64 r.1.Kind, .int .i64 r.1.Obj, .int .i64 r.1.N]), .d (.int .i64 r.2.1)]) [(n0, .box 160 [.d (.str r.2.2.s), .d (.int .i64 r.2.2.at_), .d (.int .i64 r.2.2.err)])] :=
 Spec.names [n0] hn rfl rfl (need_read_0 a0 H)
theorem need_read_f : hasFunc Tryd.prog 91 Tryd.f91 := ⟨Tryd.func91, rfl, by kernel_rfl⟩

theorem need_Get_0 (a0 : List T_api_Decl) (a1 : ByteArray) {r : (List (List T_api_Need)) × Int × Int} (H : need_Get a0 a1 = some r) : LJ.Spec Tryd.prog 60 [.d (slT enc_api_Decl a0), .d (.str a1)] [] (.tup [.d (slT enc_sl_api_Need r.1), .d (.int .i64 r.2.1), .d (.int .i64 r.2.2)]) [] := by
 refine LJ.Spec.code Tryd.func60 rfl 71 rfl rfl [] rfl fun w0 F0 S0 B0 => ?_
 unfold need_Get at H
 refine Ws (Wg (Wr 3 tk sg0 rfl rfl tv (Wn (Qn (Ws (Wg (Wr 1 tk sg0 rfl rfl tv ?_)))))))
 obtain ⟨x1, hx1, H⟩ := of_bind H
 refine Wf [2180] (octet_Open_s 2180 rfl _ hx1) octet_Open_f rfl rfl tv rfl rfl rfl (Wr 1 tk sg0 rfl rfl tv (Wn (Qn (Ws (Wg (Wr 1 tk sg0 rfl rfl tv ?_))))))
 obtain ⟨x2, hx2, H⟩ := of_bind H
 refine Wf [] (need_many_s 2180 rfl _ _ hx2) need_many_f rfl rfl ⟨rfl, tv⟩ rfl rfl rfl (Wr 5 tk sg0 rfl rfl tv (Wn (Qn (Ws (Ws (Wg (Wr 2 tk sg0 rfl rfl tv (Wn (Qn (Wc rfl (fun h3 => ?_) (fun h3 => ?_)))))))))))
 ·replace H := of_t H h3
  refine Ws (Wg (Wr 4 tk sg0 rfl rfl tv (Wn (Qn (WC.nilT 4 enc_sl_api_Need rfl (Wt (QT.r ?_)))))))
  cases H
  exact Ea rfl rfl rfl tv
 replace H := of_f H h3
 refine Wk (Qn (Ws (Wg (Wr 1 tk sg0 rfl rfl tv (Wn (Qn (Ws (Ws (Wg (Wr 2 tk sg0 rfl rfl tv (Wn (Qn (Wb (WC.nilrow (t := 10) 1054 97 1 rfl rfl rfl (Wl (ι := {x : Nat × (Int × (List (List T_api_Need)) × ByteArray × Int × Int) // need_Get_l6 a0 a1 x2 x.1 x.2 = some r}) (fun x => [(0, .d (slT enc_api_Decl a0)), (1, .d (.str a1)), (7, .ptr 2180 0), (10, .own 1054), (27, .d (.int .i64 x2.1)), (28, .d (.int .i64 x.1.2.1))]) (fun x => [(1054, .row 97 1 (x.1.2.2.1.map enc_sl_api_Need)), (2180, .box 160 [.d (.str x.1.2.2.2.1), .d (.int .i64 x.1.2.2.2.2.1), .d (.int .i64 x.1.2.2.2.2.2)])]) (fun x => x.1.1) ⟨(fuel, (0, ([] : List (List T_api_Need)), x2.2.2.s, x2.2.2.at_, x2.2.2.err)), H⟩ (Less.mk' ⟨rfl, rfl, rfl, rfl, rfl, rfl, tv⟩ ⟨rfl, rfl, tv⟩) fun x => ?_)))))))))))))))
 obtain ⟨⟨k6, s5⟩, H⟩ := x
 rcases k6 with _ | k6
 ·exact of_none H
 rw [need_Get_l6] at H
 refine Ws (Wg (Wr 1 tk sg0 rfl rfl tv (Wn (Qn (Ws (Wc rfl (fun h7 => ?_) (fun h7 => ?_)))))))
 ·replace H := of_t H h7
  refine Wk (Qn ?_)
  obtain ⟨K8, hK8, H⟩ := of_withK H
  refine WC.cut (fun E m => ∃ s9 : (List (List T_api_Need)) × ByteArray × Int × Int, K8 s9 = some r ∧ LessW E m [(0, .d (slT enc_api_Decl a0)), (1, .d (.str a1)), (7, .ptr 2180 0), (10, .own 1054), (27, .d (.int .i64 x2.1)), (28, .d (.int .i64 s5.1))] [(1054, .row 97 1 (s9.1.map enc_sl_api_Need)), (2180, .box 160 [.d (.str s9.2.1), .d (.int .i64 s9.2.2.1), .d (.int .i64 s9.2.2.2)])]) ?_ ?_
  ·refine Wb (Ws (Wg (Wr 1 tk sg0 rfl rfl tv ?_)))
   obtain ⟨x10, hx10, H⟩ := of_bind H
   refine Wf [] (need_many_s 2180 rfl _ _ hx10) need_many_f rfl rfl ⟨rfl, tv⟩ rfl rfl rfl (Wr 5 tk sg0 rfl rfl tv (Wn (Qn (Ws (Ws (Wg (Wr 2 tk sg0 rfl rfl tv (Wn (Qn (Wc rfl (fun h11 => ?_) (fun h11 => ?_)))))))))))
   ·replace H := of_t H h11
    refine Ws (Wg (Wr 4 tk sg0 rfl rfl tv (Wn (Qn (WC.nilT 4 enc_sl_api_Need rfl (Wt (QT.r (QB.r (QT.r (QT.r (QB.r (QT.r ?_))))))))))))
    cases H
    exact Ea rfl rfl rfl tv
   replace H := of_f H h11
   refine Wk (Qn (Ws (Wg (Wr 1 tk sg0 rfl rfl tv (Wn (Qn (Ws (Ws (Wg (Wr 2 tk sg0 rfl rfl tv (Wn (Qn (Wb (WC.nilrow (t := 13) 1049 101 3 rfl rfl rfl (Wl (ι := {x : Nat × (Int × (List T_api_Need) × ByteArray × Int × Int) // need_Get_l14 s5 K8 x10 x.1 x.2 = some r}) (fun x => [(0, .d (slT enc_api_Decl a0)), (1, .d (.str a1)), (7, .ptr 2180 0), (10, .own 1054), (13, .own 1049), (27, .d (.int .i64 x2.1)), (28, .d (.int .i64 s5.1)), (38, .d (.int .i64 x10.1)), (39, .d (.int .i64 x.1.2.1))]) (fun x => [(1049, .row 101 3 (x.1.2.2.1.map enc_api_Need)), (1054, .row 97 1 (s5.2.1.map enc_sl_api_Need)), (2180, .box 160 [.d (.str x.1.2.2.2.1), .d (.int .i64 x.1.2.2.2.2.1), .d (.int .i64 x.1.2.2.2.2.2)])]) (fun x => x.1.1) ⟨(fuel, (0, ([] : List T_api_Need), x10.2.2.s, x10.2.2.at_, x10.2.2.err)), H⟩ (Less.mk' ⟨rfl, rfl, rfl, rfl, rfl, rfl, rfl, rfl, rfl, tv⟩ ⟨rfl, rfl, rfl, tv⟩) fun x => ?_)))))))))))))))
   obtain ⟨⟨k14, s13⟩, H⟩ := x
   rcases k14 with _ | k14
   ·exact of_none H
   rw [need_Get_l14] at H
   refine Ws (Wg (Wr 1 tk sg0 rfl rfl tv (Wn (Qn (Ws (Wc rfl (fun h15 => ?_) (fun h15 => ?_)))))))
   ·replace H := of_t H h15
    refine Wk (Qn (Ws (Wb (Ws (Wg (Wr 1 tk sg0 rfl rfl tv ?_))))))
    obtain ⟨x16, hx16, H⟩ := of_bind H
    refine Wf [] (need_read_s 2180 rfl _ hx16) need_read_f rfl rfl ⟨rfl, tv⟩ rfl rfl rfl (Wr 3 tk sg0 rfl rfl tv (Wa 114 tk rfl rfl rfl (We 0 tk ek eg0 rfl rfl rfl tv (Wr 1 tk sg0 rfl rfl tv (Wn (Qn (Ws (Ws (Wg (Wr 2 tk sg0 rfl rfl tv (Wn (Qn (Wc rfl (fun h17 => ?_) (fun h17 => ?_))))))))))))))
    ·replace H := of_t H h17
     refine Ws (Wg (Wr 4 tk sg0 rfl rfl tv (Wn (Qn (WC.nilT 4 enc_sl_api_Need rfl (Wt (QT.r (QB.r (QT.r (QT.r (QB.r (QT.r (QB.r (QT.r (QT.r (QB.r (QT.r ?_)))))))))))))))))
     cases H
     exact Ea rfl rfl rfl tv
    replace H := of_f H h17
    refine Wk (Qn (Wg (Wr 2 tk sg0 rfl rfl tv (We 151 tk ek eg0 rfl rfl rfl tv (WL.freezeT 151 enc_api_Need ([x16.1] : List T_api_Need) rfl rfl rfl rfl ?_)))))
    obtain ⟨g18, H⟩ := of_need H
    refine WL.appT enc_api_Need s13.2.1 ([x16.1] : List T_api_Need) tk ek rfl rfl (fun _ => rfl) (fun _ => rfl) rfl rfl rfl rfl (nCap_ok g18) rfl rfl rfl rfl rfl ?_
    refine Wr 1 tk sg0 rfl rfl tv (Wn (Qb (Qn ?_)))
    exact Wg (Wr 2 tk sg0 rfl rfl tv (Wn (Qn (⟨⟨(k14, (IntKind.i64.wrap (s13.1 + 1), s13.2.1 ++ ([x16.1] : List T_api_Need), x16.2.2.s, x16.2.2.at_, x16.2.2.err)), H⟩, Nat.lt_succ_self _, Less.mk' ⟨rfl, rfl, rfl, rfl, rfl, rfl, rfl, rfl, rfl, tv⟩ ⟨rfl, rfl, rfl, tv⟩⟩))))
   replace H := of_f H h15
   refine WC.exit (Qx (Qx (Qh (Qn ?_))))
   refine Wg (Wr 2 tk sg0 rfl rfl tv (WL.freezeT 1049 enc_api_Need s13.2.1 rfl rfl rfl rfl (We 156 tk ek eg0 rfl rfl rfl tv (WL.freezeT 156 enc_sl_api_Need ([s13.2.1] : List (List T_api_Need)) rfl rfl rfl rfl ?_))))
   obtain ⟨g19, H⟩ := of_need H
   refine WL.appT enc_sl_api_Need s5.2.1 ([s13.2.1] : List (List T_api_Need)) tk ek rfl rfl (fun _ => rfl) (fun _ => rfl) rfl rfl rfl rfl (nCap_ok g19) rfl rfl rfl rfl rfl ?_
   refine Wr 1 tk sg0 rfl rfl tv (Wn (Qb (Qn ?_)))
   exact ⟨(s5.2.1 ++ ([s13.2.1] : List (List T_api_Need)), s13.2.2.1, s13.2.2.2.1, s13.2.2.2.2), H, LessW.mk' ⟨Ao rfl, Ao rfl, Ao rfl, Ao rfl, Ao rfl, Ao rfl, tv⟩ ⟨rfl, rfl, tv⟩⟩
  ·rintro E m ⟨s9, H, hl⟩
   refine WC.lessW hl ?_
   replace H := (hK8 _).symm.trans H
   try dsimp only at H
   exact Wg (Wr 2 tk sg0 rfl rfl tv (Wn (Qn (⟨⟨(k6, (IntKind.i64.wrap (s5.1 + 1), s9.1, s9.2.1, s9.2.2.1, s9.2.2.2)), H⟩, Nat.lt_succ_self _, Less.mk' ⟨rfl, rfl, rfl, rfl, rfl, rfl, tv⟩ ⟨rfl, rfl, tv⟩⟩))))
 replace H := of_f H h7
 refine WC.exit (Qx (Qx (Qh (Qn ?_))))
 refine Ws (Ws (Wg (Wr 2 tk sg0 rfl rfl tv (WL.freezeT 1054 enc_sl_api_Need s5.2.1 rfl rfl rfl rfl ?_))))
 obtain ⟨x20, hx20, H⟩ := of_bind H
 refine Wf [] (need_Check_0 _ _ hx20) need_Check_f rfl rfl tv rfl rfl rfl (Wr 1 tk sg0 rfl rfl tv (Wn (Qn (Ws (Wg (Wr 2 tk sg0 rfl rfl tv (Wn (Qn (Wc rfl (fun h21 => ?_) (fun h21 => ?_))))))))))
 ·replace H := of_t H h21
  refine Ws (Wg (Wr 4 tk sg0 rfl rfl tv (Wn (Qn (WC.nilT 4 enc_sl_api_Need rfl (Wt (QT.r ?_)))))))
  cases H
  exact Ea rfl rfl rfl tv
 replace H := of_f H h21
 refine Wk (Qn (Ws (Wg (Wr 4 tk sg0 rfl rfl tv ?_))))
 obtain ⟨x22, hx22, H⟩ := of_bind H
 refine Wf [] (octet_In_Left_s 2180 rfl _ hx22) octet_In_Left_f rfl rfl ⟨rfl, tv⟩ rfl rfl rfl (Wr 4 tk sg0 rfl rfl tv (Wn (Qn (Wt ?_))))
 cases H
 exact Ea rfl rfl rfl tv
theorem need_Get_f : hasFunc Tryd.prog 60 Tryd.f60 := ⟨Tryd.func60, rfl, by kernel_rfl⟩

theorem ins_Get_0 (a0 : ByteArray) {r : T_api_Ins × Int × Int} (H : ins_Get a0 = some r) : LJ.Spec Tryd.prog 92 [.d (.str a0)] [] (.tup [.d (.agg [.int .i64 r.1.Op, .int .i64 r.1.A, .int .i64 r.1.B]), .d (.int .i64 r.2.1), .d (.int .i64 r.2.2)]) [] := by
 refine LJ.Spec.code Tryd.func92 rfl 76 rfl rfl [] rfl fun w0 F0 S0 B0 => ?_
 unfold ins_Get at H
 refine Ws (Wg (Wa 102 tk rfl rfl rfl (Wr 2 tk sg0 rfl rfl tv (Wn (Qn (Ws (Wg (Wr 1 tk sg0 rfl rfl tv ?_))))))))
 obtain ⟨x1, hx1, H⟩ := of_bind H
 refine Wf [2140] (octet_Open_s 2140 rfl _ hx1) octet_Open_f rfl rfl tv rfl rfl rfl (Wr 1 tk sg0 rfl rfl tv (Wn (Qn (Ws (Wg (Wr 1 tk sg0 rfl rfl tv ?_))))))
 obtain ⟨x2, hx2, H⟩ := of_bind H
 refine Wf [] (octet_In_Byte_s 2140 rfl _ hx2) octet_In_Byte_f rfl rfl ⟨rfl, tv⟩ rfl rfl rfl (Wr 1 tk sg0 rfl rfl tv (Wa 106 tk rfl rfl rfl (We 0 tk ek eg0 rfl rfl rfl tv (Wn (Qn (Ws (Ws (Wg (Wr 1 tk sg0 rfl rfl tv ?_)))))))))
 obtain ⟨x3, hx3, H⟩ := of_bind H
 refine Wf [] (octet_In_Err_s 2140 rfl _ hx3) octet_In_Err_f rfl rfl ⟨rfl, tv⟩ rfl rfl rfl (Wr 1 tk sg0 rfl rfl tv (Wn (Qn (Ws (Wg (Wr 2 tk sg0 rfl rfl tv (Wn (Qn (Wc rfl (fun h4 => ?_) (fun h4 => ?_))))))))))
 ·replace H := of_t H h4
  refine Ws (Wg (Wr 2 tk sg0 rfl rfl tv (We 0 tk ek eg0 rfl rfl rfl tv (Wr 2 tk sg0 rfl rfl tv (Wn (Qn (Wt (QT.r ?_))))))))
  cases H
  exact Ends.autoC tk rfl rfl rfl tv
 replace H := of_f H h4
 refine Wk (Qn (Ws (Ws (Wg (Wr 2 tk sg0 rfl rfl tv ?_)))))
 obtain ⟨x5, hx5, H⟩ := of_bind H
 refine Wf [] (op_Name_0 _ hx5) op_Name_f rfl rfl tv rfl rfl rfl (Wr 1 tk sg0 rfl rfl tv (Wn (Qn (Wc rfl (fun h6 => ?_) (fun h6 => ?_)))))
 ·replace H := of_t H h6
  refine Ws (Wg (Wr 1 tk sg0 rfl rfl tv (We 0 tk ek eg0 rfl rfl rfl tv (Wr 2 tk sg0 rfl rfl tv (Wn (Qn (Wt (QT.r ?_))))))))
  cases H
  exact Ends.autoC tk rfl rfl rfl tv
 replace H := of_f H h6
 refine Wk (Qn (Ws (Wg (Wr 2 tk sg0 rfl rfl tv ?_))))
 obtain ⟨x7, hx7, H⟩ := of_bind H
 refine Wf [] (op_Form_0 _ hx7) op_Form_f rfl rfl tv rfl rfl rfl (Wr 1 tk sg0 rfl rfl tv (Wn (Qn (Ws (Wg (WL.allocZ 109 [.int .i64 0, .int .i64 0] rfl (by kernel_rfl) rfl rfl rfl rfl (Wn (Qn (Ws (Ws (Wg (Wr 3 tk sg0 rfl rfl tv (Wn (Qn (Wb (Wl (ι := {x : Nat × (Int × (List Int) × ByteArray × Int × Int) // ins_Get_l9 a0 x2 x7 x.1 x.2 = some r}) (fun x => [(0, .d (.str a0)), (2, .ptr 102 0), (5, .ptr 2140 0), (6, .ptr 106 0), (8, .d (.str x7)), (9, .ptr 109 0), (33, .d (.int .i64 (x7.size : Int))), (34, .d (.int .i64 x.1.2.1))]) (fun x => [(102, .box 51 [.d (.int .i64 0), .d (.int .i64 0), .d (.int .i64 0)]), (106, .box 51 [.d (.int .i64 x2.1), .d (.int .i64 0), .d (.int .i64 0)]), (109, .box 110 [.d (.int .i64 (x.1.2.2.1.getD 0 default)), .d (.int .i64 (x.1.2.2.1.getD 1 default))]), (2140, .box 160 [.d (.str x.1.2.2.2.1), .d (.int .i64 x.1.2.2.2.2.1), .d (.int .i64 x.1.2.2.2.2.2)])]) (fun x => x.1.1) ⟨(fuel, (0, ([0, 0] : List Int), x2.2.s, x2.2.at_, x2.2.err)), H⟩ (Less.mk' ⟨rfl, rfl, rfl, rfl, rfl, rfl, rfl, rfl, tv⟩ ⟨rfl, rfl, rfl, rfl, tv⟩) fun x => ?_))))))))))))))))
 obtain ⟨⟨k9, s8⟩, H⟩ := x
 rcases k9 with _ | k9
 ·exact of_none H
 rw [ins_Get_l9] at H
 refine Ws (Wg (Wr 1 tk sg0 rfl rfl tv (Wn (Qn (Ws (Wc rfl (fun h10 => ?_) (fun h10 => ?_)))))))
 ·replace H := of_t H h10
  refine Wk (Qn (Ws (Wb (Ws (Wg (Wr 2 tk sg0 rfl rfl tv (Wn (Qn (Ws (Ws (Wg ?_)))))))))))
  obtain ⟨g11, H⟩ := of_need H
  refine Wr 4 tk sg0 rfl rfl ⟨(nIn_ok g11), tv⟩ (Wn (Qn (Wc rfl (fun h12 => ?_) (fun h12 => ?_))))
  ·replace H := of_t H h12
   refine Wg (Wr 2 tk sg0 rfl rfl tv ?_)
   obtain ⟨x13, hx13, H⟩ := of_bind H
   refine Wf [] (octet_In_Int_s 2140 rfl _ hx13) octet_In_Int_f rfl rfl ⟨rfl, tv⟩ rfl rfl rfl ?_
   obtain ⟨g14, H⟩ := of_need H
   refine WL.yv (LJ.Y.idxPtrA 2 s8.1 (by kernel_rfl) rfl rfl rfl (nIn_ok g14)) rfl rfl rfl (WL.wo (WO.storePtrA 2 0 (fun x : Int => DV.int .i64 x) s8.2.1 x13.1 s8.1 (cs' := [.d (.int .i64 ((aset 2 s8.2.1 s8.1.toNat x13.1).getD 0 default)), .d (.int .i64 ((aset 2 s8.2.1 s8.1.toNat x13.1).getD 1 default))]) rfl rfl rfl rfl rfl (by kernel_rfl) rfl rfl (nIn_ok g14) rfl rfl rfl) rfl (Wn (Qn (Ws (Wg (Wr 1 tk sg0 rfl rfl tv ?_))))))
   obtain ⟨x15, hx15, H⟩ := of_bind H
   refine Wf [] (octet_In_Err_s 2140 rfl _ hx15) octet_In_Err_f rfl rfl ⟨rfl, tv⟩ rfl rfl rfl (Wr 1 tk sg0 rfl rfl tv (Wn (Qn (Ws (Wg (Wr 2 tk sg0 rfl rfl tv (Wn (Qn (Wc rfl (fun h16 => ?_) (fun h16 => ?_))))))))))
   ·replace H := of_t H h16
    refine Ws (Wg (Wr 2 tk sg0 rfl rfl tv (We 0 tk ek eg0 rfl rfl rfl tv (Wr 2 tk sg0 rfl rfl tv (Wn (Qn (Wt (QB.r (QT.r (QT.r (QB.r (QT.r ?_))))))))))))
    cases H
    exact Ends.autoC tk rfl rfl rfl tv
   replace H := of_f H h16
   refine Wk (Qb (Qn ?_))
   exact Wg (Wr 2 tk sg0 rfl rfl tv (Wn (Qn (⟨⟨(k9, (IntKind.i64.wrap (s8.1 + 1), (aset 2 s8.2.1 s8.1.toNat x13.1), x13.2.s, x13.2.at_, x13.2.err)), H⟩, Nat.lt_succ_self _, Less.mk' ⟨rfl, rfl, rfl, rfl, rfl, rfl, rfl, rfl, tv⟩ ⟨rfl, rfl, rfl, rfl, tv⟩⟩))))
  replace H := of_f H h12
  refine Wg (Wr 2 tk sg0 rfl rfl tv ?_)
  obtain ⟨x17, hx17, H⟩ := of_bind H
  refine Wf [] (octet_In_Num_s 2140 rfl _ hx17) octet_In_Num_f rfl rfl ⟨rfl, tv⟩ rfl rfl rfl (WL.yv (LJ.Y.min rfl rfl rfl) rfl rfl rfl (Wr 1 tk sg0 rfl rfl tv ?_))
  obtain ⟨g18, H⟩ := of_need H
  refine WL.yv (LJ.Y.idxPtrA 2 s8.1 (by kernel_rfl) rfl rfl rfl (nIn_ok g18)) rfl rfl rfl (WL.wo (WO.storePtrA 2 0 (fun x : Int => DV.int .i64 x) s8.2.1 (IntKind.i64.wrap (iMin x17.1 (2147483648 : Int))) s8.1 (cs' := [.d (.int .i64 ((aset 2 s8.2.1 s8.1.toNat (IntKind.i64.wrap (iMin x17.1 (2147483648 : Int)))).getD 0 default)), .d (.int .i64 ((aset 2 s8.2.1 s8.1.toNat (IntKind.i64.wrap (iMin x17.1 (2147483648 : Int)))).getD 1 default))]) rfl rfl rfl rfl rfl (by kernel_rfl) rfl rfl (nIn_ok g18) rfl rfl rfl) rfl (Wn (Qn (Ws (Wg (Wr 1 tk sg0 rfl rfl tv ?_))))))
  obtain ⟨x19, hx19, H⟩ := of_bind H
  refine Wf [] (octet_In_Err_s 2140 rfl _ hx19) octet_In_Err_f rfl rfl ⟨rfl, tv⟩ rfl rfl rfl (Wr 1 tk sg0 rfl rfl tv (Wn (Qn (Ws (Wg (Wr 2 tk sg0 rfl rfl tv (Wn (Qn (Wc rfl (fun h20 => ?_) (fun h20 => ?_))))))))))
  ·replace H := of_t H h20
   refine Ws (Wg (Wr 2 tk sg0 rfl rfl tv (We 0 tk ek eg0 rfl rfl rfl tv (Wr 2 tk sg0 rfl rfl tv (Wn (Qn (Wt (QB.r (QT.r (QT.r (QB.r (QT.r ?_))))))))))))
   cases H
   exact Ends.autoC tk rfl rfl rfl tv
  replace H := of_f H h20
  refine Wk (Qb (Qn ?_))
  exact Wg (Wr 2 tk sg0 rfl rfl tv (Wn (Qn (⟨⟨(k9, (IntKind.i64.wrap (s8.1 + 1), (aset 2 s8.2.1 s8.1.toNat (IntKind.i64.wrap (iMin x17.1 (2147483648 : Int)))), x17.2.s, x17.2.at_, x17.2.err)), H⟩, Nat.lt_succ_self _, Less.mk' ⟨rfl, rfl, rfl, rfl, rfl, rfl, rfl, rfl, tv⟩ ⟨rfl, rfl, rfl, rfl, tv⟩⟩))))
 replace H := of_f H h10
 refine WC.exit (Qx (Qx (Qh (Qn ?_))))
 refine Ws (Hp (.one 0 true (.one 1 true (.one 2 true (.one 3 true (.one 4 true (.one 5 false (.one 6 true (.one 7 false .done)))))))) [102, 106, 109, 2140] [102, 109, 2140] rfl (by kernel_rfl) rfl (by kernel_rfl) rfl rfl (fun _ h => h) rfl rfl rfl (fun _ _ _ h => h) fun FK NK wK K => ?_)
 obtain ⟨g21, H⟩ := of_need H
 refine WH.yv rfl (LJ.Y.idxPtrA 2 (0 : Int) (by kernel_rfl) rfl rfl rfl (nIn_ok g21)) rfl rfl rfl (WH.yv rfl (LJ.Y.loadPtrA 2 0 (fun k => .int .i64 (s8.2.1.getD k default)) (0 : Int) rfl rfl rfl (by kernel_rfl) rfl (nIn_ok g21)) rfl rfl rfl ?_)
 obtain ⟨g22, H⟩ := of_need H
 refine WH.yv rfl (LJ.Y.idxPtrA 2 (1 : Int) (by kernel_rfl) rfl rfl rfl (nIn_ok g22)) rfl rfl rfl (WH.yv rfl (LJ.Y.loadPtrA 2 0 (fun k => .int .i64 (s8.2.1.getD k default)) (1 : Int) rfl rfl rfl (by kernel_rfl) rfl (nIn_ok g22)) rfl rfl rfl (Hr 1 tk rfl rfl rfl rfl tv (He 0 tk ek rfl rfl rfl rfl tv rfl rfl (Hr 1 tk rfl rfl rfl rfl tv (He 0 tk ek rfl rfl rfl rfl tv rfl rfl (WH.nil rfl (Qn (Ws (Ws (Wg (Wr 1 tk sg0 rfl rfl tv ?_)))))))))))
 obtain ⟨x23, hx23, H⟩ := of_bind H
 refine Wf [] (ins_Check_0 _ hx23) ins_Check_f rfl rfl tv rfl rfl rfl (Wr 1 tk sg0 rfl rfl tv (Wn (Qn (Ws (Wg (Wr 2 tk sg0 rfl rfl tv (Wn (Qn (Wc rfl (fun h24 => ?_) (fun h24 => ?_))))))))))
 ·replace H := of_t H h24
  refine Ws (Wg (Wr 2 tk sg0 rfl rfl tv (We 0 tk ek eg0 rfl rfl rfl tv (Wr 2 tk sg0 rfl rfl tv (Wn (Qn (Wt (QT.r ?_))))))))
  cases H
  exact Ends.autoC tk rfl rfl rfl tv
 replace H := of_f H h24
 refine Wk (Qn (Ws (Hp (.one 0 true (.one 1 true (.one 2 true (.one 3 true (.one 4 false (.one 5 true (.one 6 false (.one 7 true (.one 8 true .done))))))))) [102, 106, 109, 2140] [106, 109] rfl (by kernel_rfl) rfl (by kernel_rfl) rfl rfl (fun _ h => h) rfl rfl rfl (fun _ _ _ h => h) fun FK NK wK K => (Hr 4 tk rfl rfl rfl rfl tv ?_))))
 obtain ⟨x25, hx25, H⟩ := of_bind H
 refine WH.call [] rfl (octet_In_Left_s 2140 rfl _ hx25) octet_In_Left_f rfl rfl ⟨rfl, tv⟩ rfl rfl rfl rfl rfl (Hr 1 tk rfl rfl rfl rfl tv (He 0 tk ek rfl rfl rfl rfl tv rfl rfl (Hr 2 tk rfl rfl rfl rfl tv (WH.nil rfl (Qn (Wt ?_))))))
 cases H
 exact Ends.autoC tk rfl rfl rfl tv
theorem ins_Get_f : hasFunc Tryd.prog 92 Tryd.f92 := ⟨Tryd.func92, rfl, by kernel_rfl⟩

theorem prog_reader_function_S (a0 : T_prog_reader) {z : Int ⊕ (T_api_Func × T_prog_reader)} (H : prog_reader_function a0 = some z) : LJ.SpecS Tryd.prog 61 [.ptr 0 0] [(0, .box 84 [.d (.str a0.s)])] (fun e => .iface 79 (.agg #[.int .i64 e])) (fun (r : T_api_Func × T_prog_reader) => (.d (.agg [.int .i64 r.1.Args, .int .i64 r.1.Locals, slT enc_api_Ins r.1.Code]), [(0, .box 84 [.d (.str r.2.s)])])) z := by
 refine LJ.SpecS.code Tryd.func61 rfl 37 rfl rfl [0] rfl fun w0 F0 S0 B0 => ?_
 unfold prog_reader_function at H
 refine Ws (Wg (Wa 102 tk rfl rfl rfl (Wn (Qn (Ws (Wg (Wr 1 tk sg0 rfl rfl tv ?_)))))))
 rcases of_pbind H with ⟨e, hx1, rfl⟩ | ⟨x1r, hx1, H⟩
 ·exact WL.callP (prog_reader_num_p _ hx1) prog_reader_num_f rfl rfl ⟨rfl, tv⟩ rfl rfl ⟨_, rfl, rfl⟩
 refine Wf [] (prog_reader_num_s 0 rfl _ hx1) prog_reader_num_f rfl rfl ⟨rfl, tv⟩ rfl rfl rfl (Wr 1 tk sg0 rfl rfl tv ?_)
 rcases of_pbind H with ⟨e, hx2, rfl⟩ | ⟨x2r, hx2, H⟩
 ·exact WL.callP (prog_reader_num_p _ hx2) prog_reader_num_f rfl rfl ⟨rfl, tv⟩ rfl rfl ⟨_, rfl, rfl⟩
 refine Wf [] (prog_reader_num_s 0 rfl _ hx2) prog_reader_num_f rfl rfl ⟨rfl, tv⟩ rfl rfl rfl (Wr 1 tk sg0 rfl rfl tv (Wa 103 tk rfl rfl rfl (We 0 tk ek eg0 rfl rfl rfl tv (Wn (Qn (Ws (Ws (Wg (Wr 1 tk sg0 rfl rfl tv ?_)))))))))
 rcases of_pbind H with ⟨e, hx3, rfl⟩ | ⟨x3r, hx3, H⟩
 ·exact WL.callP (prog_reader_many_p _ _ hx3) prog_reader_many_f rfl rfl ⟨rfl, tv⟩ rfl rfl ⟨_, rfl, rfl⟩
 refine Wf [] (prog_reader_many_s 0 rfl _ _ hx3) prog_reader_many_f rfl rfl ⟨rfl, tv⟩ rfl rfl rfl (Wr 1 tk sg0 rfl rfl tv (Wn (Qn (Wb (WC.nilF 103 2 1030 51 3 rfl (Wl (ι := {x : Nat × (Int × ByteArray × (List T_api_Ins)) // prog_reader_function_l6 x1r x2r x3r x.1 x.2 = some z}) (fun x => [(0, .ptr 0 0), (2, .ptr 102 0), (3, .ptr 103 0), (13, .d (.int .i64 x3r.1)), (14, .d (.int .i64 x.1.2.1))]) (fun x => [(0, .box 84 [.d (.str x.1.2.2.1)]), (102, .box 49 [.d (.int .i64 0), .d (.int .i64 0), .d (.nils)]), (103, .box 49 [.d (.int .i64 x1r.1), .d (.int .i64 x2r.1), .own 1030]), (1030, .row 51 3 (x.1.2.2.2.map enc_api_Ins))]) (fun x => x.1.1) ⟨(fuel, (0, x3r.2.s, ([] : List T_api_Ins))), H⟩ (Less.mk' ⟨rfl, rfl, rfl, rfl, rfl, tv⟩ ⟨rfl, rfl, rfl, rfl, tv⟩) fun x => ?_))))))
 obtain ⟨⟨k6, s5⟩, H⟩ := x
 rcases k6 with _ | k6
 ·exact of_none H
 rw [prog_reader_function_l6] at H
 refine Ws (Wg (Wr 1 tk sg0 rfl rfl tv (Wn (Qn (Ws (Wc rfl (fun h7 => ?_) (fun h7 => ?_)))))))
 ·replace H := of_t H h7
  refine Wk (Qn (Ws (Wb (Ws (Wg (Wr 4 tk sg0 rfl rfl tv ?_))))))
  obtain ⟨x8, hx8, H⟩ := of_bind H
  refine Wf [] (ins_Get_0 _ hx8) ins_Get_f rfl rfl tv rfl rfl rfl (Wr 4 tk sg0 rfl rfl tv (Wa 104 tk rfl rfl rfl (We 0 tk ek eg0 rfl rfl rfl tv (Wr 2 tk sg0 rfl rfl tv (Wn (Qn (Ws (Wg (Wr 3 tk sg0 rfl rfl tv ?_)))))))))
  rcases of_pbind H with ⟨e, hx9, rfl⟩ | ⟨x9r, hx9, H⟩
  ·exact WL.callP (prog_reader_took_p _ _ _ hx9) prog_reader_took_f rfl rfl ⟨rfl, tv⟩ rfl rfl ⟨_, rfl, rfl⟩
  refine Wf [] (prog_reader_took_s 0 rfl _ _ _ hx9) prog_reader_took_f rfl rfl ⟨rfl, tv⟩ rfl rfl rfl (Wn (Qn (Wg (Wr 3 tk sg0 rfl rfl tv (We 132 tk ek eg0 rfl rfl rfl tv (WL.freezeT 132 enc_api_Ins ([x8.1] : List T_api_Ins) rfl rfl rfl rfl ?_))))))
  obtain ⟨g10, H⟩ := of_need H
  refine WL.appT enc_api_Ins s5.2.2 ([x8.1] : List T_api_Ins) tk ek rfl rfl (fun _ => rfl) (fun _ => rfl) rfl rfl rfl rfl (nCap_ok g10) rfl rfl rfl rfl rfl ?_
  refine Wr 1 tk sg0 rfl rfl tv (We 0 tk ek eg0 rfl rfl rfl tv (Wn (Qb (Qn ?_))))
  exact Wg (Wr 2 tk sg0 rfl rfl tv (Wn (Qn (⟨⟨(k6, (IntKind.i64.wrap (s5.1 + 1), x9r.s, s5.2.2 ++ ([x8.1] : List T_api_Ins))), H⟩, Nat.lt_succ_self _, Less.mk' ⟨rfl, rfl, rfl, rfl, rfl, tv⟩ ⟨rfl, rfl, rfl, rfl, tv⟩⟩))))
 replace H := of_f H h7
 refine WC.exit (Qx (Qx (Qh (Qn ?_))))
 refine Ws (Wg (WL.freezeT 1030 enc_api_Ins s5.2.2 rfl rfl rfl rfl (Wr 1 tk sg0 rfl rfl tv (We 0 tk ek eg0 rfl rfl rfl tv (Wn (Qn (Wt ?_)))))))
 cases H
 refine ⟨_, rfl, ?_⟩
 exact Ends.autoC tk rfl rfl rfl ⟨rfl, tv⟩
theorem prog_reader_function_0 (a0 : T_prog_reader) {r : T_api_Func × T_prog_reader} (H : prog_reader_function a0 = some (.inr r)) : LJ.Spec Tryd.prog 61 [.ptr 0 0] [(0, .box 84 [.d (.str a0.s)])] (.d (.agg [.int .i64 r.1.Args, .int .i64 r.1.Locals, slT enc_api_Ins r.1.Code])) [(0, .box 84 [.d (.str r.2.s)])] := prog_reader_function_S a0 H
theorem prog_reader_function_p (a0 : T_prog_reader) {e : Int} (H : prog_reader_function a0 = some (.inl e)) : LJ.Panics Tryd.prog 61 [.ptr 0 0] [(0, .box 84 [.d (.str a0.s)])] (.iface 79 (.agg #[.int .i64 e])) := prog_reader_function_S a0 H
theorem prog_reader_function_s (n0 : Nat) (hn : nodupB [n0] = true) (a0 : T_prog_reader) {r : T_api_Func × T_prog_reader} (H : prog_reader_function a0 = some (.inr r)) : LJ.Spec Tryd.prog 61 [.ptr n0 0] [(n0, .box 84 [.d (.str a0.s)])] (.d (.agg [.int .i64 r.1.Args, .int .i64 r.1.Locals, slT enc_api_Ins r.1.Code])) [(n0, .box 84 [.d (.str r.2.s)])] :=
 Spec.names [n0] hn rfl rfl (prog_reader_function_0 a0 H)
theorem prog_reader_function_f : hasFunc Tryd.prog 61 Tryd.f61 := ⟨Tryd.func61, rfl, by kernel_rfl⟩

theorem prog_reader_program_S (a0 : T_prog_reader) {z : Int ⊕ (T_api_Program × T_prog_reader)} (H : prog_reader_program a0 = some z) : LJ.SpecS Tryd.prog 35 [.ptr 0 0] [(0, .box 84 [.d (.str a0.s)])] (fun e => .iface 79 (.agg #[.int .i64 e])) (fun (r : T_api_Program × T_prog_reader) => (.d (.agg [slT enc_api_Decl r.1.Decls, slT enc_sl_sl_api_Need r.1.Waits, slT enc_api_Func r.1.Funcs]), [(0, .box 84 [.d (.str r.2.s)])])) z := by
 refine LJ.SpecS.code Tryd.func35 rfl 71 rfl rfl [0] rfl fun w0 F0 S0 B0 => ?_
 unfold prog_reader_program at H
 refine Ws (Wg (Wa 102 tk rfl rfl rfl (Wn (Qn (Ws (Wg (Wr 4 tk sg0 rfl rfl tv ?_)))))))
 obtain ⟨x1, hx1, H⟩ := of_bind H
 refine Wf [] (decl_Get_0 _ hx1) decl_Get_f rfl rfl tv rfl rfl rfl (Wr 7 tk sg0 rfl rfl tv (Wn (Qn (Ws (Wg (Wr 3 tk sg0 rfl rfl tv ?_))))))
 rcases of_pbind H with ⟨e, hx2, rfl⟩ | ⟨x2r, hx2, H⟩
 ·exact WL.callP (prog_reader_took_p _ _ _ hx2) prog_reader_took_f rfl rfl ⟨rfl, tv⟩ rfl rfl ⟨_, rfl, rfl⟩
 refine Wf [] (prog_reader_took_s 0 rfl _ _ _ hx2) prog_reader_took_f rfl rfl ⟨rfl, tv⟩ rfl rfl rfl (Wn (Qn (Ws (Wg (Wr 2 tk sg0 rfl rfl tv (Wa 106 tk rfl rfl rfl (We 0 tk ek eg0 rfl rfl rfl tv (Wn (Qn (Ws (Ws (Wg (Wr 1 tk sg0 rfl rfl tv ?_)))))))))))))
 rcases of_pbind H with ⟨e, hx3, rfl⟩ | ⟨x3r, hx3, H⟩
 ·exact WL.callP (prog_reader_many_p _ _ hx3) prog_reader_many_f rfl rfl ⟨rfl, tv⟩ rfl rfl ⟨_, rfl, rfl⟩
 refine Wf [] (prog_reader_many_s 0 rfl _ _ hx3) prog_reader_many_f rfl rfl ⟨rfl, tv⟩ rfl rfl rfl (Wr 1 tk sg0 rfl rfl tv (Wn (Qn (Wb (WC.nilF 106 1 1045 45 1 rfl (Wl (ι := {x : Nat × (Int × ByteArray × (List (List (List T_api_Need)))) // prog_reader_program_l6 x1 x3r x.1 x.2 = some z}) (fun x => [(0, .ptr 0 0), (2, .ptr 102 0), (6, .ptr 106 0), (26, .d (.int .i64 x3r.1)), (27, .d (.int .i64 x.1.2.1))]) (fun x => [(0, .box 84 [.d (.str x.1.2.2.1)]), (102, .box 26 [.d (.nils), .d (.nils), .d (.nils)]), (106, .box 26 [.d (slT enc_api_Decl x1.1), .own 1045, .d (.nils)]), (1045, .row 45 1 (x.1.2.2.2.map enc_sl_sl_api_Need))]) (fun x => x.1.1) ⟨(fuel, (0, x3r.2.s, ([] : List (List (List T_api_Need))))), H⟩ (Less.mk' ⟨rfl, rfl, rfl, rfl, rfl, tv⟩ ⟨rfl, rfl, rfl, rfl, tv⟩) fun x => ?_))))))
 obtain ⟨⟨k6, s5⟩, H⟩ := x
 rcases k6 with _ | k6
 ·exact of_none H
 rw [prog_reader_program_l6] at H
 refine Ws (Wg (Wr 1 tk sg0 rfl rfl tv (Wn (Qn (Ws (Wc rfl (fun h7 => ?_) (fun h7 => ?_)))))))
 ·replace H := of_t H h7
  refine Wk (Qn (Ws (Wb (Ws ?_))))
  obtain ⟨x6_6_1, hx6_6_1, H⟩ := of_bind H
  refine WC.heldF [(0, .ptr 0 0), (2, .ptr 102 0), (6, .ptr 106 0), (7, .d (slT enc_sl_api_Need x6_6_1.1)), (8, .d (.int .i64 x6_6_1.2.1)), (9, .d (.int .i64 x6_6_1.2.2)), (26, .d (.int .i64 x3r.1)), (27, .d (.int .i64 s5.1))] [(0, .box 84 [.d (.str s5.2.1)]), (102, .box 26 [.d (.nils), .d (.nils), .d (.nils)]), (106, .box 26 [.d (slT enc_api_Decl x1.1), .own 1045, .d (.nils)]), (1045, .row 45 1 (s5.2.2.map enc_sl_sl_api_Need))] (.one 0 true (.one 1 true (.one 2 true (.one 3 true (.one 4 true (.one 5 true (.one 6 false (.one 7 true (.fork (.one 8 false (.one 11 true (.fork (.one 9 false (.one 12 true (.one 10 false (.one 13 true .done)))) (.one 10 false (.one 9 false (.one 12 true (.one 13 true .done))))))) (.fork (.one 9 false (.fork (.one 8 false (.one 11 true (.one 12 true (.one 10 false (.one 13 true .done))))) (.one 10 false (.one 8 false (.one 11 true (.one 12 true (.one 13 true .done))))))) (.one 10 false (.fork (.one 8 false (.one 11 true (.one 9 false (.one 12 true (.one 13 true .done))))) (.one 9 false (.one 8 false (.one 11 true (.one 12 true (.one 13 true .done))))))))))))))))) [0, 102, 106] [0, 102, 106] rfl (by kernel_rfl) rfl (by kernel_rfl) rfl rfl (fun _ h => h) rfl rfl rfl (fun FK NK wK K => ?_) ?_
  ·refine Hr 6 tk rfl rfl rfl rfl tv (WH.call [] rfl (need_Get_0 _ _ hx6_6_1) need_Get_f rfl rfl tv rfl rfl rfl rfl rfl (WH.mv rfl rfl rfl rfl rfl rfl rfl rfl rfl (WH.fork ?_ (WH.fork ?_ ?_))))
   ·refine WH.val tk rfl rfl rfl rfl rfl tv rfl rfl (WH.mv rfl rfl rfl rfl rfl rfl rfl rfl rfl (WH.fork ?_ ?_))
    ·exact WH.val tk rfl rfl rfl rfl rfl tv rfl rfl (Hr 1 tk rfl rfl rfl rfl tv (WH.val tk rfl rfl rfl rfl rfl tv rfl rfl (Hr 1 tk rfl rfl rfl rfl tv (Hn rfl (LessW.mk' ⟨Ao rfl, Ao rfl, Ao rfl, Ao rfl, Ao rfl, Ao rfl, Ao rfl, Ao rfl, tv⟩ ⟨rfl, rfl, rfl, rfl, tv⟩)))))
    ·exact WH.val tk rfl rfl rfl rfl rfl tv rfl rfl (WH.val tk rfl rfl rfl rfl rfl tv rfl rfl (Hr 2 tk rfl rfl rfl rfl tv (Hn rfl (LessW.mk' ⟨Ao rfl, Ao rfl, Ao rfl, Ao rfl, Ao rfl, Ao rfl, Ao rfl, Ao rfl, tv⟩ ⟨rfl, rfl, rfl, rfl, tv⟩))))
   ·refine WH.val tk rfl rfl rfl rfl rfl tv rfl rfl (WH.fork ?_ ?_)
    ·exact WH.val tk rfl rfl rfl rfl rfl tv rfl rfl (WH.mv rfl rfl rfl rfl rfl rfl rfl rfl rfl (Hr 1 tk rfl rfl rfl rfl tv (WH.val tk rfl rfl rfl rfl rfl tv rfl rfl (Hr 1 tk rfl rfl rfl rfl tv (Hn rfl (LessW.mk' ⟨Ao rfl, Ao rfl, Ao rfl, Ao rfl, Ao rfl, Ao rfl, Ao rfl, Ao rfl, tv⟩ ⟨rfl, rfl, rfl, rfl, tv⟩))))))
    ·exact WH.val tk rfl rfl rfl rfl rfl tv rfl rfl (WH.val tk rfl rfl rfl rfl rfl tv rfl rfl (WH.mv rfl rfl rfl rfl rfl rfl rfl rfl rfl (Hr 2 tk rfl rfl rfl rfl tv (Hn rfl (LessW.mk' ⟨Ao rfl, Ao rfl, Ao rfl, Ao rfl, Ao rfl, Ao rfl, Ao rfl, Ao rfl, tv⟩ ⟨rfl, rfl, rfl, rfl, tv⟩)))))
   ·refine WH.val tk rfl rfl rfl rfl rfl tv rfl rfl (WH.fork ?_ ?_)
    ·exact WH.val tk rfl rfl rfl rfl rfl tv rfl rfl (WH.mv rfl rfl rfl rfl rfl rfl rfl rfl rfl (WH.val tk rfl rfl rfl rfl rfl tv rfl rfl (Hr 2 tk rfl rfl rfl rfl tv (Hn rfl (LessW.mk' ⟨Ao rfl, Ao rfl, Ao rfl, Ao rfl, Ao rfl, Ao rfl, Ao rfl, Ao rfl, tv⟩ ⟨rfl, rfl, rfl, rfl, tv⟩)))))
    ·exact WH.val tk rfl rfl rfl rfl rfl tv rfl rfl (WH.val tk rfl rfl rfl rfl rfl tv rfl rfl (WH.mv rfl rfl rfl rfl rfl rfl rfl rfl rfl (Hr 2 tk rfl rfl rfl rfl tv (Hn rfl (LessW.mk' ⟨Ao rfl, Ao rfl, Ao rfl, Ao rfl, Ao rfl, Ao rfl, Ao rfl, Ao rfl, tv⟩ ⟨rfl, rfl, rfl, rfl, tv⟩)))))
  ·refine Qn (Ws (Wg (Wr 3 tk sg0 rfl rfl tv ?_)))
   rcases of_pbind H with ⟨e, hx8, rfl⟩ | ⟨x8r, hx8, H⟩
   ·exact WL.callP (prog_reader_took_p _ _ _ hx8) prog_reader_took_f rfl rfl ⟨rfl, tv⟩ rfl rfl ⟨_, rfl, rfl⟩
   refine Wf [] (prog_reader_took_s 0 rfl _ _ _ hx8) prog_reader_took_f rfl rfl ⟨rfl, tv⟩ rfl rfl rfl (Wn (Qn (Wg (Wr 3 tk sg0 rfl rfl tv (We 147 tk ek eg0 rfl rfl rfl tv (WL.freezeT 147 enc_sl_sl_api_Need ([x6_6_1.1] : List (List (List T_api_Need))) rfl rfl rfl rfl ?_))))))
   obtain ⟨g9, H⟩ := of_need H
   refine WL.appT enc_sl_sl_api_Need s5.2.2 ([x6_6_1.1] : List (List (List T_api_Need))) tk ek rfl rfl (fun _ => rfl) (fun _ => rfl) rfl rfl rfl rfl (nCap_ok g9) rfl rfl rfl rfl rfl ?_
   refine Wr 1 tk sg0 rfl rfl tv (We 0 tk ek eg0 rfl rfl rfl tv (Wn (Qb (Qn ?_))))
   exact Wg (Wr 2 tk sg0 rfl rfl tv (Wn (Qn (⟨⟨(k6, (IntKind.i64.wrap (s5.1 + 1), x8r.s, s5.2.2 ++ ([x6_6_1.1] : List (List (List T_api_Need))))), H⟩, Nat.lt_succ_self _, Less.mk' ⟨rfl, rfl, rfl, rfl, rfl, tv⟩ ⟨rfl, rfl, rfl, rfl, tv⟩⟩))))
 replace H := of_f H h7
 refine WC.exit (Qx (Qx (Qh (Qn ?_))))
 refine Ws (Ws (Wg (Wr 1 tk sg0 rfl rfl tv ?_)))
 rcases of_pbind H with ⟨e, hx10, rfl⟩ | ⟨x10r, hx10, H⟩
 ·exact WL.callP (prog_reader_many_p _ _ hx10) prog_reader_many_f rfl rfl ⟨rfl, tv⟩ rfl rfl ⟨_, rfl, rfl⟩
 refine Wf [] (prog_reader_many_s 0 rfl _ _ hx10) prog_reader_many_f rfl rfl ⟨rfl, tv⟩ rfl rfl rfl (Wr 1 tk sg0 rfl rfl tv (Wn (Qn (Wb (WC.nilF 106 2 1056 49 3 rfl (Wl (ι := {x : Nat × (Int × ByteArray × (List T_api_Func)) // prog_reader_program_l13 x1 s5 x10r x.1 x.2 = some z}) (fun x => [(0, .ptr 0 0), (2, .ptr 102 0), (6, .ptr 106 0), (52, .d (.int .i64 x10r.1)), (53, .d (.int .i64 x.1.2.1))]) (fun x => [(0, .box 84 [.d (.str x.1.2.2.1)]), (102, .box 26 [.d (.nils), .d (.nils), .d (.nils)]), (106, .box 26 [.d (slT enc_api_Decl x1.1), .own 1045, .own 1056]), (1045, .row 45 1 (s5.2.2.map enc_sl_sl_api_Need)), (1056, .row 49 3 (x.1.2.2.2.map enc_api_Func))]) (fun x => x.1.1) ⟨(fuel, (0, x10r.2.s, ([] : List T_api_Func))), H⟩ (Less.mk' ⟨rfl, rfl, rfl, rfl, rfl, tv⟩ ⟨rfl, rfl, rfl, rfl, rfl, tv⟩) fun x => ?_))))))
 obtain ⟨⟨k13, s12⟩, H⟩ := x
 rcases k13 with _ | k13
 ·exact of_none H
 rw [prog_reader_program_l13] at H
 refine Ws (Wg (Wr 1 tk sg0 rfl rfl tv (Wn (Qn (Ws (Wc rfl (fun h14 => ?_) (fun h14 => ?_)))))))
 ·replace H := of_t H h14
  refine Wk (Qn (Ws (Wb ?_)))
  rcases of_pbind H with ⟨e, hx12_3_1, rfl⟩ | ⟨x12_3_1r, hx12_3_1, H⟩
  ·refine Hp (.one 0 true (.one 2 true (.fork (.one 1 false (.one 3 false (.one 4 false (.one 5 false (.one 6 true (.one 7 false .done)))))) (.one 3 false (.fork (.one 1 false (.one 4 false (.one 5 false (.one 6 true (.one 7 false .done))))) (.one 4 false (.one 1 false (.one 5 false (.one 6 true (.one 7 false .done)))))))))) [0, 102, 106] [102] rfl (by kernel_rfl) rfl (by kernel_rfl) rfl rfl (fun _ h => h) rfl rfl rfl (fun _ _ _ h => h) fun FK NK wK K => (Hr 2 tk rfl rfl rfl rfl tv (WH.fork ?_ ?_))
   ·exact WH.val tk rfl rfl rfl rfl rfl tv rfl rfl (WH.callP rfl (prog_reader_function_p _ hx12_3_1) prog_reader_function_f rfl rfl ⟨rfl, tv⟩ rfl rfl rfl ⟨_, rfl, rfl⟩)
   ·exact WH.callP rfl (prog_reader_function_p _ hx12_3_1) prog_reader_function_f rfl rfl ⟨rfl, tv⟩ rfl rfl rfl ⟨_, rfl, rfl⟩
  obtain ⟨g12_5_1, H⟩ := of_need H
  refine WC.heldF [(0, .ptr 0 0), (2, .ptr 102 0), (6, .ptr 106 0), (52, .d (.int .i64 x10r.1)), (53, .d (.int .i64 s12.1))] [(0, .box 84 [.d (.str x12_3_1r.2.s)]), (102, .box 26 [.d (.nils), .d (.nils), .d (.nils)]), (106, .box 26 [.d (slT enc_api_Decl x1.1), .own 1045, .own 1056]), (1045, .row 45 1 (s5.2.2.map enc_sl_sl_api_Need)), (1056, .row 49 3 ((s12.2.2 ++ ([x12_3_1r.1] : List T_api_Func)).map enc_api_Func))] (.one 0 true (.one 2 true (.fork (.one 1 false (.one 3 false (.one 4 false (.one 5 false (.one 6 true (.one 7 false .done)))))) (.one 3 false (.fork (.one 1 false (.one 4 false (.one 5 false (.one 6 true (.one 7 false .done))))) (.one 4 false (.one 1 false (.one 5 false (.one 6 true (.one 7 false .done)))))))))) [0, 102, 106] [102] rfl (by kernel_rfl) rfl (by kernel_rfl) rfl rfl (fun _ h => h) rfl rfl rfl (fun FK NK wK K => ?_) ?_
  ·refine Hr 2 tk rfl rfl rfl rfl tv (WH.fork ?_ ?_)
   ·refine WH.val tk rfl rfl rfl rfl rfl tv rfl rfl (WH.call [] rfl (prog_reader_function_s 0 rfl _ hx12_3_1) prog_reader_function_f rfl rfl ⟨rfl, tv⟩ rfl rfl rfl rfl rfl (He 159 tk ek rfl rfl rfl rfl tv rfl rfl (WH.freezeT 159 enc_api_Func ([x12_3_1r.1] : List T_api_Func) rfl rfl rfl rfl (WH.appT enc_api_Func s12.2.2 ([x12_3_1r.1] : List T_api_Func) tk ek rfl rfl (fun _ => rfl) (fun _ => rfl) rfl rfl rfl rfl rfl (nCap_ok g12_5_1) rfl rfl rfl rfl rfl rfl rfl ?_))))
    exact Hr 1 tk rfl rfl rfl rfl tv (He 0 tk ek rfl rfl rfl rfl tv rfl rfl (Hn rfl (LessW.mk' ⟨Ao rfl, Ao rfl, Ao rfl, Ao rfl, Ao rfl, tv⟩ ⟨rfl, rfl, rfl, rfl, rfl, tv⟩)))
   ·refine WH.call [] rfl (prog_reader_function_s 0 rfl _ hx12_3_1) prog_reader_function_f rfl rfl ⟨rfl, tv⟩ rfl rfl rfl rfl rfl (WH.fork ?_ ?_)
    ·refine WH.val tk rfl rfl rfl rfl rfl tv rfl rfl (He 159 tk ek rfl rfl rfl rfl tv rfl rfl (WH.freezeT 159 enc_api_Func ([x12_3_1r.1] : List T_api_Func) rfl rfl rfl rfl (WH.appT enc_api_Func s12.2.2 ([x12_3_1r.1] : List T_api_Func) tk ek rfl rfl (fun _ => rfl) (fun _ => rfl) rfl rfl rfl rfl rfl (nCap_ok g12_5_1) rfl rfl rfl rfl rfl rfl rfl ?_)))
     exact Hr 1 tk rfl rfl rfl rfl tv (He 0 tk ek rfl rfl rfl rfl tv rfl rfl (Hn rfl (LessW.mk' ⟨Ao rfl, Ao rfl, Ao rfl, Ao rfl, Ao rfl, tv⟩ ⟨rfl, rfl, rfl, rfl, rfl, tv⟩)))
    ·refine He 159 tk ek rfl rfl rfl rfl tv rfl rfl (WH.freezeT 159 enc_api_Func ([x12_3_1r.1] : List T_api_Func) rfl rfl rfl rfl (WH.val tk rfl rfl rfl rfl rfl tv rfl rfl (WH.appT enc_api_Func s12.2.2 ([x12_3_1r.1] : List T_api_Func) tk ek rfl rfl (fun _ => rfl) (fun _ => rfl) rfl rfl rfl rfl rfl (nCap_ok g12_5_1) rfl rfl rfl rfl rfl rfl rfl ?_)))
     exact Hr 1 tk rfl rfl rfl rfl tv (He 0 tk ek rfl rfl rfl rfl tv rfl rfl (Hn rfl (LessW.mk' ⟨Ao rfl, Ao rfl, Ao rfl, Ao rfl, Ao rfl, tv⟩ ⟨rfl, rfl, rfl, rfl, rfl, tv⟩)))
  ·refine Qb (Qn ?_)
   exact Wg (Wr 2 tk sg0 rfl rfl tv (Wn (Qn (⟨⟨(k13, (IntKind.i64.wrap (s12.1 + 1), x12_3_1r.2.s, s12.2.2 ++ ([x12_3_1r.1] : List T_api_Func))), H⟩, Nat.lt_succ_self _, Less.mk' ⟨rfl, rfl, rfl, rfl, rfl, tv⟩ ⟨rfl, rfl, rfl, rfl, rfl, tv⟩⟩))))
 replace H := of_f H h14
 refine WC.exit (Qx (Qx (Qh (Qn ?_))))
 refine Ws (Ws (Wg (Wr 5 tk sg0 rfl rfl tv (Wn (Qn (Wc rfl (fun h15 => ?_) (fun h15 => ?_)))))))
 ·replace H := of_t H h15
  refine Wg (Wr 1 tk sg0 rfl rfl tv ?_)
  cases H
  exact WL.panicI rfl rfl rfl rfl rfl rfl rfl (by kernel_rfl) ⟨_, rfl, rfl⟩
 replace H := of_f H h15
 refine Wk (Qn (Ws (Wg (WL.freezeT 1045 enc_sl_sl_api_Need s5.2.2 rfl rfl rfl rfl (WL.freezeT 1056 enc_api_Func s12.2.2 rfl rfl rfl rfl (Wr 1 tk sg0 rfl rfl tv (We 0 tk ek eg0 rfl rfl rfl tv (Wn (Qn (Wt ?_))))))))))
 cases H
 refine ⟨_, rfl, ?_⟩
 exact Ends.autoC tk rfl rfl rfl ⟨rfl, tv⟩
theorem prog_reader_program_0 (a0 : T_prog_reader) {r : T_api_Program × T_prog_reader} (H : prog_reader_program a0 = some (.inr r)) : LJ.Spec Tryd.prog 35 [.ptr 0 0] [(0, .box 84 [.d (.str a0.s)])] (.d (.agg [slT enc_api_Decl r.1.Decls, slT enc_sl_sl_api_Need r.1.Waits, slT enc_api_Func r.1.Funcs])) [(0, .box 84 [.d (.str r.2.s)])] := prog_reader_program_S a0 H
theorem prog_reader_program_p (a0 : T_prog_reader) {e : Int} (H : prog_reader_program a0 = some (.inl e)) : LJ.Panics Tryd.prog 35 [.ptr 0 0] [(0, .box 84 [.d (.str a0.s)])] (.iface 79 (.agg #[.int .i64 e])) := prog_reader_program_S a0 H
theorem prog_reader_program_s (n0 : Nat) (hn : nodupB [n0] = true) (a0 : T_prog_reader) {r : T_api_Program × T_prog_reader} (H : prog_reader_program a0 = some (.inr r)) : LJ.Spec Tryd.prog 35 [.ptr n0 0] [(n0, .box 84 [.d (.str a0.s)])] (.d (.agg [slT enc_api_Decl r.1.Decls, slT enc_sl_sl_api_Need r.1.Waits, slT enc_api_Func r.1.Funcs])) [(n0, .box 84 [.d (.str r.2.s)])] :=
 Spec.names [n0] hn rfl rfl (prog_reader_program_0 a0 H)
theorem prog_reader_program_f : hasFunc Tryd.prog 35 Tryd.f35 := ⟨Tryd.func35, rfl, by kernel_rfl⟩

theorem prog_Get_R (a0 : ByteArray) {z : Int ⊕ (T_api_Program × Int)} (H : prog_Get_b a0 = some z) (w0 : World) (F0 S0 : Nat → Prop) (B0 : Nat → Nat) (ds : List Deferred) : WC { w0 := w0, F0 := F0, S0 := S0, ntmps := 25, P0 := [1, 2], B0 := B0, dfs := ds } Tryd.prog (getRest Tryd.f13) (EndsG Tryd.prog Tryd.f13 79 26 29 [.nils, .nils, .nils] (fun (r : T_api_Program × Int) => .tup [.d (.agg [slT enc_api_Decl r.1.Decls, slT enc_sl_sl_api_Need r.1.Waits, slT enc_api_Func r.1.Funcs]), .d (.int .i64 r.2)]) z) [(3, .ptr 2 0), (2, .ptr 1 0), (0, .d (.str a0))] [(2, .box 29 [.d (.int .i64 0)]), (1, .box 26 [.d (.nils), .d (.nils), .d (.nils)])] := by
 unfold prog_Get_b at H
 refine Ws (Ws (Wg (Wr 1 tk sg0 rfl rfl tv ?_)))
 obtain ⟨x1, hx1, H⟩ := of_bind H
 refine Wf [] (strings_HasPrefix_0 _ _ hx1) strings_HasPrefix_f rfl rfl tv rfl rfl rfl (Wr 1 tk sg0 rfl rfl tv (Wn (Qn (Wc rfl (fun h2 => ?_) (fun h2 => ?_)))))
 ·replace H := of_t H h2
  refine Ws (Wg (Wr 1 tk sg0 rfl rfl tv (We 0 tk ek eg0 rfl rfl rfl tv (We 0 tk ek eg0 rfl rfl rfl tv (Wn (Qn (WC.nilF 1 0 5010 44 3 rfl (WC.row 5010 (([] : List T_api_Decl).map enc_api_Decl) rfl rfl rfl (WC.nilF 1 1 5011 45 1 rfl (WC.row 5011 (([] : List (List (List T_api_Need))).map enc_sl_sl_api_Need) rfl rfl rfl (WC.nilF 1 2 5012 49 3 rfl (WC.row 5012 (([] : List T_api_Func).map enc_api_Func) rfl rfl rfl (WC.freezeT 5010 enc_api_Decl ([] : List T_api_Decl) rfl rfl rfl rfl (WC.freezeT 5011 enc_sl_sl_api_Need ([] : List (List (List T_api_Need))) rfl rfl rfl rfl (WC.freezeT 5012 enc_api_Func ([] : List T_api_Func) rfl rfl rfl rfl (Wt (QT.r ?_)))))))))))))))))
  cases H
  refine ⟨_, rfl, ?_⟩
  exact Ends.autoC tk rfl rfl rfl tv
 replace H := of_f H h2
 refine Wk (Qn (Ws (Wg ?_)))
 obtain ⟨g3, H⟩ := of_need H
 refine Wr 3 tk sg0 rfl rfl ⟨(nTo_ok g3), tv⟩ (We 0 tk ek eg0 rfl rfl rfl tv (Wr 1 tk sg0 rfl rfl tv (Wn (Qn (Ws (Wg (Wr 1 tk sg0 rfl rfl tv ?_)))))))
 rcases of_pbind H with ⟨e, hx4, rfl⟩ | ⟨x4r, hx4, H⟩
 ·exact WL.callPK [(2, .ptr 1 0), (3, .ptr 2 0)] [(1, .box 26 [.d (.nils), .d (.nils), .d (.nils)]), (2, .box 29 [.d (.int .i64 0)])] (prog_reader_program_p _ hx4) prog_reader_program_f rfl rfl ⟨rfl, tv⟩ rfl ⟨rfl, ⟨_, _, rfl⟩, rfl, ⟨_, _, rfl⟩, tv⟩ ⟨rfl, rfl, tv⟩ rfl rfl ⟨_, rfl, rfl, rfl, rfl, rfl, rfl⟩
 refine Wf [] (prog_reader_program_s 0 rfl _ hx4) prog_reader_program_f rfl rfl ⟨rfl, tv⟩ rfl rfl rfl (Wa 105 tk rfl rfl rfl (We 0 tk ek eg0 rfl rfl rfl tv (Wn (Qn (Ws (Ws (Wg (Wr 1 tk sg0 rfl rfl tv ?_))))))))
 obtain ⟨x5, hx5, H⟩ := of_bind H
 refine Wf [] (prog_Check_0 _ hx5) prog_Check_f rfl rfl tv rfl rfl rfl (Wr 1 tk sg0 rfl rfl tv (Wn (Qn (Ws (Wg (Wr 2 tk sg0 rfl rfl tv (Wn (Qn (Wc rfl (fun h6 => ?_) (fun h6 => ?_))))))))))
 ·replace H := of_t H h6
  refine Ws (Wg (Wr 2 tk sg0 rfl rfl tv (We 0 tk ek eg0 rfl rfl rfl tv (We 0 tk ek eg0 rfl rfl rfl tv (Wn (Qn (WC.nilF 1 0 5010 44 3 rfl (WC.row 5010 (([] : List T_api_Decl).map enc_api_Decl) rfl rfl rfl (WC.nilF 1 1 5011 45 1 rfl (WC.row 5011 (([] : List (List (List T_api_Need))).map enc_sl_sl_api_Need) rfl rfl rfl (WC.nilF 1 2 5012 49 3 rfl (WC.row 5012 (([] : List T_api_Func).map enc_api_Func) rfl rfl rfl (WC.freezeT 5010 enc_api_Decl ([] : List T_api_Decl) rfl rfl rfl rfl (WC.freezeT 5011 enc_sl_sl_api_Need ([] : List (List (List T_api_Need))) rfl rfl rfl rfl (WC.freezeT 5012 enc_api_Func ([] : List T_api_Func) rfl rfl rfl rfl (Wt (QT.r ?_)))))))))))))))))
  cases H
  refine ⟨_, rfl, ?_⟩
  exact Ends.autoC tk rfl rfl rfl tv
 replace H := of_f H h6
 refine Wk (Qn (Ws (Wg (Wr 1 tk sg0 rfl rfl tv (We 0 tk ek eg0 rfl rfl rfl tv (We 0 tk ek eg0 rfl rfl rfl tv (Wn (Qn (Wt ?_)))))))))
 cases H
 refine ⟨_, rfl, ?_⟩
 exact Ends.autoC tk rfl rfl rfl tv
theorem prog_Get_f : hasFunc Tryd.prog 13 Tryd.f13 := ⟨Tryd.func13, rfl, by kernel_rfl⟩
theorem f33_tail (w0 : World) (F0 S0 : Nat → Prop) (B0 : Nat → Nat) (e : Int) : WC { w0 := w0, F0 := F0, S0 := S0, ntmps := 19, P0 := [1, 2], B0 := B0 } Tryd.prog (closTail Tryd.f33) (fun x E m => x = .normal ∧ m.get 1 = some (.box 26 [.d .nils, .d .nils, .d .nils]) ∧ m.get 2 = some (.box 29 [.d (.int .i64 e)])) [(3, .ptr 3 0), (1, .ptr 2 0), (0, .ptr 1 0)] [(3, .box 79 [.d (.int .i64 e)]), (2, .box 29 [.d (.int .i64 0)]), (1, .box 26 [.d .nils, .d .nils, .d .nils])] := by
 exact Hp (.one 0 true (.one 1 true (.one 2 true (.one 3 false (.one 4 false .done))))) [1, 2, 3] [3] rfl (by kernel_rfl) rfl (by kernel_rfl) rfl rfl (fun _ h => h) rfl rfl rfl (fun _ _ _ h => by cases h.1) fun FK NK wK K => (Hr 3 tk rfl rfl rfl rfl tv (He 0 tk ek rfl rfl rfl rfl tv rfl rfl (He 0 tk ek rfl rfl rfl rfl tv rfl rfl (WH.nil rfl (⟨rfl, rfl, rfl⟩)))))
theorem f33_idle : Idles Tryd.prog 33 := fun p q w => by
 refine callsD_of_wpS Tryd.func33 rfl fun c₀ cs hu => ?_
 apply wpS_seq
 apply wpS_region
 simp [wpOpsS, go_sem, recoverD, hu, Tryd.ntmps33, Exit.thenS]
 apply wpS_seq
 apply wpS_region
 simp [wpOpsS, go_sem, Exit.thenS]
 refine wpS_cond (t := false) (by simp [Act.eval, Array.replicate]) ?_
 simp only [Bool.false_eq_true, if_false]
 refine wpS_of_wp (wp_skip ?_)
 cases c₀
 simp_all [bodyPostS, results, Tryd.results33]
theorem f33_catch : Catches Tryd.prog 33 79 26 29 #[.slice none 0 0, .slice none 0 0, .slice none 0 0] := fun F bp bq e w hG hFin hFp hFq hne hp hq => by
 refine callsD_of_wpS Tryd.func33 rfl fun c₀ cs hu => ?_
 apply wpS_seq
 apply wpS_region
 simp [wpOpsS, go_sem, recoverD, hu, Tryd.ntmps33, Exit.thenS]
 apply wpS_seq
 apply wpS_region
 simp [wpOpsS, go_sem, Exit.thenS]
 refine wpS_cond (t := true) (by simp [Act.eval, Array.replicate]) ?_
 simp only [if_true]
 have hTA : ∀ W, (Instr.typeAssert (Value.iface 79 (Value.agg #[Value.int .i64 e])) 20 79 true).run Tryd.prog W = .ok (.tuple #[.agg #[.int .i64 e], .bool true]) W := fun W => by kernel_rfl
 apply wpS_seq
 apply wpS_region
 simp [wpOpsS, go_sem, Exit.thenS, hTA]
 apply wpS_seq
 apply wpS_seq
 apply wpS_region
 simp [wpOpsS, go_sem, Exit.thenS]
 refine wpS_cond (t := false) (by simp [Act.eval, Array.replicate]) ?_
 simp only [Bool.false_eq_true, if_false]
 refine wpS_of_wp (wp_skip ?_)
 simp only [Exit.thenS]
 refine wpS_of_wp ?_
 have hlt : ∀ b, (w.heap[b]?).isSome = true → b < w.heap.size := fun b hb => by
  rcases Nat.lt_or_ge b w.heap.size with h | h
  ·exact h
  ·simp [Array.getElem?_eq_none h] at hb
 have lp := hlt bp (by rw [hp]; rfl)
 have lq := hlt bq (by rw [hq]; rfl)
 show Code.wp Tryd.prog (closTail Tryd.f33) _ _ _
 refine clos_tail (T := 26) (T2 := 29) (e := e) (nt := 19) (pt := 79) (fun w0 F0 S0 B0 => f33_tail w0 F0 S0 B0 e) hG hFin hFp hFq hne hp hq lp lq ?_ ?_ ?_ ?_ ?_ ?_ ?_
 ·rfl
 ·simp
 ·rfl
 ·simp [Array.replicate]
 ·simp [Array.replicate]
 ·simp [Array.replicate]
 intro a' w' hd h1 h2 h3 h4 h5 h6 h7
 simp [bodyPostS, results, Tryd.results33, hd, h1, h2, h3, h4, h6, h7]
 exact h5
set_option maxRecDepth 100000 in
theorem prog_Get_0 (a0 : ByteArray) {r : T_api_Program × Int} (H : prog_Get a0 = some r) : LJ.Spec Tryd.prog 13 [.d (.str a0)] [] (.tup [.d (.agg [slT enc_api_Decl r.1.Decls, slT enc_sl_sl_api_Need r.1.Waits, slT enc_api_Func r.1.Funcs]), .d (.int .i64 r.2)]) [] := by
 unfold prog_Get at H
 obtain ⟨z, hz, H⟩ := of_bind H
 cases H
 exact Spec.recovers (zs := [.nils, .nils, .nils]) (zv := #[.slice none 0 0, .slice none 0 0, .slice none 0 0]) (o := fun (r : T_api_Program × Int) => .tup [.d (.agg [slT enc_api_Decl r.1.Decls, slT enc_sl_sl_api_Need r.1.Waits, slT enc_api_Func r.1.Funcs]), .d (.int .i64 r.2)]) (zf := fun e => ((⟨[], [], []⟩ : T_api_Program), e)) Tryd.func13 rfl 25 rfl rfl rfl (fun w0 F0 S0 B0 => Wg (Wa 1 tk rfl rfl rfl (Wa 2 tk rfl rfl rfl (Wn ⟨rfl, rfl, rfl⟩)))) rfl rfl rfl rfl rfl rfl rfl rfl rfl (fun w0 F0 S0 B0 ds => prog_Get_R a0 hz w0 F0 S0 B0 ds) (fun p q w => by simp [go_sem]) f33_idle f33_catch (fun F N w n h => h.box3) (fun e => ⟨_, _, rfl, outsC_ok tk (ps := [.d (.agg [.nils, .nils, .nils]), .d (.int .i64 e)]) rfl, fun F N w v h => Rep.tup2 (Le.agg (.cons (Le.nilT _) (.cons (Le.nilT _) (.cons (Le.nilT _) .nil)))) h⟩) (fun F N w n h => Holds.mk3 h)

theorem ref09_Same_0 (a0 : List (List T_api_Need)) (a1 : List (List T_api_Need)) {r : Bool} (H : ref09_Same a0 a1 = some r) : LJ.Spec Tryd.prog 40 [.d (slT enc_sl_api_Need a0), .d (slT enc_sl_api_Need a1)] [] (.d (.bool r)) [] := by
 refine LJ.Spec.code Tryd.func40 rfl 53 rfl rfl [] rfl fun w0 F0 S0 B0 => ?_
 unfold ref09_Same at H
 refine Ws (Wg (Wr 1 tk sg0 rfl rfl tv (Wn (Qn (Ws (Ws (Wg (Wr 5 tk sg0 rfl rfl tv (Wn (Qn (Wc rfl (fun h1 => ?_) (fun h1 => ?_))))))))))))
 ·replace H := of_t H h1
  refine Ws (Wg (Wr 1 tk sg0 rfl rfl tv (Wn (Qn (Wt (QT.r ?_))))))
  cases H
  exact Ea rfl rfl rfl tv
 replace H := of_f H h1
 refine Wk (Qn (Ws (Ws (Wg (Wr 1 tk sg0 rfl rfl tv (Wn (Qn (Wb (Wl (ι := {x : Nat × Int // ref09_Same_l3 a0 a1 x.1 x.2 = some r}) (fun x => [(0, .d (slT enc_sl_api_Need a0)), (1, .d (slT enc_sl_api_Need a1)), (5, .d (.int .i64 x.1.2))]) (fun x => []) (fun x => x.1.1) ⟨(fuel, 0), H⟩ (Less.mk' ⟨rfl, rfl, rfl, tv⟩ tv) fun x => ?_)))))))))
 obtain ⟨⟨k3, s2⟩, H⟩ := x
 rcases k3 with _ | k3
 ·exact of_none H
 rw [ref09_Same_l3] at H
 refine Ws (Ws (Wg (Wr 4 tk sg0 rfl rfl tv (Wn (Qn (Wc rfl (fun h4 => ?_) (fun h4 => ?_)))))))
 ·replace H := of_t H h4
  refine Wk (Qn ?_)
  obtain ⟨K5, hK5, H⟩ := of_withK H
  refine WC.cut (fun E m => ∃ s6 : Unit, K5 s6 = some r ∧ LessW E m [(0, .d (slT enc_sl_api_Need a0)), (1, .d (slT enc_sl_api_Need a1)), (5, .d (.int .i64 s2))] []) ?_ ?_
  ·refine Wb (Ws (Ws (Hp (.one 0 true (.one 1 true (.one 2 true (.one 3 true (.one 4 true (.one 5 true (.one 6 true (.one 7 true (.one 8 true (.one 9 true (.one 10 true .done))))))))))) [] [] rfl (by kernel_rfl) rfl (by kernel_rfl) rfl rfl (fun _ h => h) rfl rfl rfl (fun _ _ _ h => h) fun FK NK wK K => ?_)))
   obtain ⟨g7, H⟩ := of_need H
   obtain ⟨g8, H⟩ := of_need H
   refine Hr 11 tk rfl rfl rfl rfl ⟨⟨(nIn_ok g7).1, (nIn_ok g7).2, rfl⟩, ⟨(nIn_ok g8).1, (nIn_ok g8).2, rfl⟩, tv⟩ (WH.nil rfl (Qn (Wc rfl (fun h9 => ?_) (fun h9 => ?_))))
   ·replace H := of_t H h9
    refine Ws (Wg (Wr 1 tk sg0 rfl rfl tv (Wn (Qn (Wt (QT.r (QB.r (QT.r (QT.r (QB.r (QT.r ?_)))))))))))
    cases H
    exact Ea rfl rfl rfl tv
   replace H := of_f H h9
   refine Wk (Qn (Ws (Wg (Wr 1 tk sg0 rfl rfl tv (Wn (Qn (Wb (Wl (ι := {x : Nat × Int // ref09_Same_l11 a0 a1 s2 K5 x.1 x.2 = some r}) (fun x => [(0, .d (slT enc_sl_api_Need a0)), (1, .d (slT enc_sl_api_Need a1)), (5, .d (.int .i64 s2)), (6, .d (.int .i64 x.1.2))]) (fun x => []) (fun x => x.1.1) ⟨(fuel, 0), H⟩ (Less.mk' ⟨rfl, rfl, rfl, rfl, tv⟩ tv) fun x => ?_))))))))
   obtain ⟨⟨k11, s10⟩, H⟩ := x
   rcases k11 with _ | k11
   ·exact of_none H
   rw [ref09_Same_l11] at H
   refine Ws (Ws (Wg ?_))
   obtain ⟨g12, H⟩ := of_need H
   refine Wr 7 tk sg0 rfl rfl ⟨⟨(nIn_ok g12).1, (nIn_ok g12).2, rfl⟩, tv⟩ (Wn (Qn (Wc rfl (fun h13 => ?_) (fun h13 => ?_))))
   ·replace H := of_t H h13
    refine Wk (Qn (Ws (Wb (Ws (Hp (.one 0 true (.one 1 true (.one 2 true (.one 3 true (.one 4 true (.one 5 true (.one 6 true (.one 7 true (.one 8 true (.one 9 true (.one 10 true (.one 11 true (.one 12 true (.one 13 true (.one 14 true .done))))))))))))))) [] [] rfl (by kernel_rfl) rfl (by kernel_rfl) rfl rfl (fun _ h => h) rfl rfl rfl (fun _ _ _ h => h) fun FK NK wK K => ?_)))))
    obtain ⟨g14, H⟩ := of_need H
    obtain ⟨g15, H⟩ := of_need H
    obtain ⟨g16, H⟩ := of_need H
    obtain ⟨g17, H⟩ := of_need H
    refine Hr 14 tk rfl rfl rfl rfl ⟨⟨(nIn_ok g14).1, (nIn_ok g14).2, rfl⟩, ⟨(nIn_ok g15).1, (nIn_ok g15).2, rfl⟩, ⟨(nIn_ok g16).1, (nIn_ok g16).2, rfl⟩, ⟨(nIn_ok g17).1, (nIn_ok g17).2, rfl⟩, tv⟩ (WH.yv rfl (LJ.Y.structEq .neq (.inr rfl) rfl rfl rfl (by kernel_rfl) rfl) rfl rfl rfl (WH.nil rfl (Qn (Wc rfl (fun h18 => ?_) (fun h18 => ?_)))))
    ·replace H := of_t H h18
     refine Ws (Wg (Wr 1 tk sg0 rfl rfl tv (Wn (Qn (Wt (QB.r (QT.r (QT.r (QB.r (QB.r (QT.r (QT.r (QB.r (QT.r ?_))))))))))))))
     cases H
     exact Ea rfl rfl rfl tv
    replace H := of_f H h18
    refine Wk (Qb (Qn ?_))
    exact Wg (Wr 3 tk sg0 rfl rfl tv (Wn (Qn (⟨⟨(k11, IntKind.i64.wrap (s10 + 1)), H⟩, Nat.lt_succ_self _, Less.mk' ⟨rfl, rfl, rfl, rfl, tv⟩ tv⟩))))
   replace H := of_f H h13
   refine WC.exit (Qx (Qx (Qh (Qb (Qn ?_)))))
   exact ⟨Unit.unit, H, LessW.mk' ⟨Ao rfl, Ao rfl, Ao rfl, tv⟩ tv⟩
  ·rintro E m ⟨s6, H, hl⟩
   refine WC.lessW hl ?_
   replace H := (hK5 _).symm.trans H
   try dsimp only at H
   exact Wg (Wr 3 tk sg0 rfl rfl tv (Wn (Qn (⟨⟨(k3, IntKind.i64.wrap (s2 + 1)), H⟩, Nat.lt_succ_self _, Less.mk' ⟨rfl, rfl, rfl, tv⟩ tv⟩))))
 replace H := of_f H h4
 refine WC.exit (Qx (Qx (Qh (Qn ?_))))
 refine Ws (Wg (Wr 1 tk sg0 rfl rfl tv (Wn (Qn (Wt ?_)))))
 cases H
 exact Ea rfl rfl rfl tv
theorem ref09_Same_f : hasFunc Tryd.prog 40 Tryd.f40 := ⟨Tryd.func40, rfl, by kernel_rfl⟩

theorem ref10_Same_0 (a0 : T_api_Program) (a1 : T_api_Program) {r : Bool} (H : ref10_Same a0 a1 = some r) : LJ.Spec Tryd.prog 15 [.d (.agg [slT enc_api_Decl a0.Decls, slT enc_sl_sl_api_Need a0.Waits, slT enc_api_Func a0.Funcs]), .d (.agg [slT enc_api_Decl a1.Decls, slT enc_sl_sl_api_Need a1.Waits, slT enc_api_Func a1.Funcs])] [] (.d (.bool r)) [] := by
 refine LJ.Spec.code Tryd.func15 rfl 129 rfl rfl [] rfl fun w0 F0 S0 B0 => ?_
 unfold ref10_Same at H
 refine Ws (Wg (We 102 tk ek eg0 rfl rfl rfl tv (We 103 tk ek eg0 rfl rfl rfl tv (Wr 1 tk sg0 rfl rfl tv (Wn (Qn (Ws (Ws (Wg (Wr 8 tk sg0 rfl rfl tv (Wx 7 7 false tk sg0 rfl rfl (fun _ => tv) (Wr 2 tk sg0 rfl rfl ⟨by first | exact id | exact fun h => by rw [h]; rfl | simp_all, tv⟩ (Wx 7 16 false tk sg0 rfl rfl (fun _ => tv) (Wr 1 tk sg0 rfl rfl ⟨by first | exact id | exact fun h => by rw [h]; rfl | simp_all, tv⟩ (Wn (Qn (Wc rfl (fun h1 => ?_) (fun h1 => ?_))))))))))))))))))
 ·replace H := of_t H h1
  refine Ws (Wg (Wr 1 tk sg0 rfl rfl tv (Wn (Qn (Wt (QT.r ?_))))))
  cases H
  exact Ea rfl rfl rfl tv
 replace H := of_f H h1
 refine Wk (Qn (Ws (Ws (Wg (Wr 1 tk sg0 rfl rfl tv (Wn (Qn (Wb (Wl (ι := {x : Nat × Int // ref10_Same_l3 a0 a1 x.1 x.2 = some r}) (fun x => [(2, .ptr 102 0), (3, .ptr 103 0), (5, .d (.int .i64 x.1.2))]) (fun x => [(102, .box 26 [.d (slT enc_api_Decl a0.Decls), .d (slT enc_sl_sl_api_Need a0.Waits), .d (slT enc_api_Func a0.Funcs)]), (103, .box 26 [.d (slT enc_api_Decl a1.Decls), .d (slT enc_sl_sl_api_Need a1.Waits), .d (slT enc_api_Func a1.Funcs)])]) (fun x => x.1.1) ⟨(fuel, 0), H⟩ (Less.mk' ⟨rfl, rfl, rfl, tv⟩ ⟨rfl, rfl, tv⟩) fun x => ?_)))))))))
 obtain ⟨⟨k3, s2⟩, H⟩ := x
 rcases k3 with _ | k3
 ·exact of_none H
 rw [ref10_Same_l3] at H
 refine Ws (Ws (Wg (Wr 5 tk sg0 rfl rfl tv (Wn (Qn (Wc rfl (fun h4 => ?_) (fun h4 => ?_)))))))
 ·replace H := of_t H h4
  refine Wk (Qn (Ws (Wb (Ws (Hp (.one 0 true (.one 1 true (.one 2 true (.one 3 true (.one 4 true (.one 5 true (.one 6 true (.one 7 true (.one 8 true (.one 9 true (.one 10 true .done))))))))))) [102, 103] [102, 103] rfl (by kernel_rfl) rfl (by kernel_rfl) rfl rfl (fun _ h => h) rfl rfl rfl (fun _ _ _ h => h) fun FK NK wK K => ?_)))))
  obtain ⟨g5, H⟩ := of_need H
  obtain ⟨g6, H⟩ := of_need H
  refine Hr 10 tk rfl rfl rfl rfl ⟨⟨(nIn_ok g5).1, (nIn_ok g5).2, rfl⟩, ⟨(nIn_ok g6).1, (nIn_ok g6).2, rfl⟩, tv⟩ (WH.yv rfl (LJ.Y.structEq .neq (.inr rfl) rfl rfl rfl (by kernel_rfl) rfl) rfl rfl rfl (WH.nil rfl (Qn (Wc rfl (fun h7 => ?_) (fun h7 => ?_)))))
  ·replace H := of_t H h7
   refine Ws (Wg (Wr 1 tk sg0 rfl rfl tv (Wn (Qn (Wt (QB.r (QT.r (QT.r (QB.r (QT.r ?_))))))))))
   cases H
   exact Ea rfl rfl rfl tv
  replace H := of_f H h7
  refine Wk (Qb (Qn ?_))
  exact Wg (Wr 3 tk sg0 rfl rfl tv (Wn (Qn (⟨⟨(k3, IntKind.i64.wrap (s2 + 1)), H⟩, Nat.lt_succ_self _, Less.mk' ⟨rfl, rfl, rfl, tv⟩ ⟨rfl, rfl, tv⟩⟩))))
 replace H := of_f H h4
 refine WC.exit (Qx (Qx (Qh (Qn ?_))))
 refine Ws (Ws (Wg (Wr 1 tk sg0 rfl rfl tv (Wn (Qn (Wb (Wl (ι := {x : Nat × Int // ref10_Same_l9 a0 a1 x.1 x.2 = some r}) (fun x => [(2, .ptr 102 0), (3, .ptr 103 0), (6, .d (.int .i64 x.1.2))]) (fun x => [(102, .box 26 [.d (slT enc_api_Decl a0.Decls), .d (slT enc_sl_sl_api_Need a0.Waits), .d (slT enc_api_Func a0.Funcs)]), (103, .box 26 [.d (slT enc_api_Decl a1.Decls), .d (slT enc_sl_sl_api_Need a1.Waits), .d (slT enc_api_Func a1.Funcs)])]) (fun x => x.1.1) ⟨(fuel, 0), H⟩ (Less.mk' ⟨rfl, rfl, rfl, tv⟩ ⟨rfl, rfl, tv⟩) fun x => ?_)))))))
 obtain ⟨⟨k9, s8⟩, H⟩ := x
 rcases k9 with _ | k9
 ·exact of_none H
 rw [ref10_Same_l9] at H
 refine Ws (Ws (Wg (Wr 5 tk sg0 rfl rfl tv (Wn (Qn (Wc rfl (fun h10 => ?_) (fun h10 => ?_)))))))
 ·replace H := of_t H h10
  refine Wk (Qn (Ws (Wb (Ws (Hp (.one 0 true (.one 1 true (.one 2 true (.one 3 true (.one 4 true (.one 5 true (.one 6 true (.one 7 true (.one 8 true (.one 9 true (.one 10 false (.one 11 true .done)))))))))))) [102, 103] [102, 103] rfl (by kernel_rfl) rfl (by kernel_rfl) rfl rfl (fun _ h => h) rfl rfl rfl (fun _ _ _ h => h) fun FK NK wK K => ?_)))))
  obtain ⟨g11, H⟩ := of_need H
  obtain ⟨g12, H⟩ := of_need H
  refine Hr 10 tk rfl rfl rfl rfl ⟨⟨(nIn_ok g11).1, (nIn_ok g11).2, rfl⟩, ⟨(nIn_ok g12).1, (nIn_ok g12).2, rfl⟩, tv⟩ ?_
  obtain ⟨x13, hx13, H⟩ := of_bind H
  refine WH.call [] rfl (ref09_Same_0 _ _ hx13) ref09_Same_f rfl rfl tv rfl rfl rfl rfl rfl (Hr 1 tk rfl rfl rfl rfl tv (WH.nil rfl (Qn (Wc rfl (fun h14 => ?_) (fun h14 => ?_)))))
  ·replace H := of_t H h14
   refine Ws (Wg (Wr 1 tk sg0 rfl rfl tv (Wn (Qn (Wt (QB.r (QT.r (QT.r (QB.r (QT.r ?_))))))))))
   cases H
   exact Ea rfl rfl rfl tv
  replace H := of_f H h14
  refine Wk (Qb (Qn ?_))
  exact Wg (Wr 3 tk sg0 rfl rfl tv (Wn (Qn (⟨⟨(k9, IntKind.i64.wrap (s8 + 1)), H⟩, Nat.lt_succ_self _, Less.mk' ⟨rfl, rfl, rfl, tv⟩ ⟨rfl, rfl, tv⟩⟩))))
 replace H := of_f H h10
 refine WC.exit (Qx (Qx (Qh (Qn ?_))))
 refine Ws (Ws (Wg (Wr 1 tk sg0 rfl rfl tv (Wn (Qn (Wb (Wl (ι := {x : Nat × Int // ref10_Same_l16 a0 a1 x.1 x.2 = some r}) (fun x => [(2, .ptr 102 0), (3, .ptr 103 0), (7, .d (.int .i64 x.1.2))]) (fun x => [(102, .box 26 [.d (slT enc_api_Decl a0.Decls), .d (slT enc_sl_sl_api_Need a0.Waits), .d (slT enc_api_Func a0.Funcs)]), (103, .box 26 [.d (slT enc_api_Decl a1.Decls), .d (slT enc_sl_sl_api_Need a1.Waits), .d (slT enc_api_Func a1.Funcs)])]) (fun x => x.1.1) ⟨(fuel, 0), H⟩ (Less.mk' ⟨rfl, rfl, rfl, tv⟩ ⟨rfl, rfl, tv⟩) fun x => ?_)))))))
 obtain ⟨⟨k16, s15⟩, H⟩ := x
 rcases k16 with _ | k16
 ·exact of_none H
 rw [ref10_Same_l16] at H
 refine Ws (Ws (Wg (Wr 5 tk sg0 rfl rfl tv (Wn (Qn (Wc rfl (fun h17 => ?_) (fun h17 => ?_)))))))
 ·replace H := of_t H h17
  refine Wk (Qn ?_)
  obtain ⟨K18, hK18, H⟩ := of_withK H
  refine WC.cut (fun E m => ∃ s19 : Unit, K18 s19 = some r ∧ LessW E m [(2, .ptr 102 0), (3, .ptr 103 0), (7, .d (.int .i64 s15))] [(102, .box 26 [.d (slT enc_api_Decl a0.Decls), .d (slT enc_sl_sl_api_Need a0.Waits), .d (slT enc_api_Func a0.Funcs)]), (103, .box 26 [.d (slT enc_api_Decl a1.Decls), .d (slT enc_sl_sl_api_Need a1.Waits), .d (slT enc_api_Func a1.Funcs)])]) ?_ ?_
  ·refine Wb (Ws ?_)
   obtain ⟨g16_3_1, H⟩ := of_need H
   obtain ⟨g16_8_1, H⟩ := of_need H
   refine WC.heldF [(2, .ptr 102 0), (3, .ptr 103 0), (7, .d (.int .i64 s15)), (8, .ptr 108 0), (9, .ptr 109 0)] [(102, .box 26 [.d (slT enc_api_Decl a0.Decls), .d (slT enc_sl_sl_api_Need a0.Waits), .d (slT enc_api_Func a0.Funcs)]), (103, .box 26 [.d (slT enc_api_Decl a1.Decls), .d (slT enc_sl_sl_api_Need a1.Waits), .d (slT enc_api_Func a1.Funcs)]), (108, .box 49 [.d (.int .i64 ((a0.Funcs.getD s15.toNat default).Args)), .d (.int .i64 ((a0.Funcs.getD s15.toNat default).Locals)), .d (slT enc_api_Ins ((a0.Funcs.getD s15.toNat default).Code))]), (109, .box 49 [.d (.int .i64 ((a1.Funcs.getD s15.toNat default).Args)), .d (.int .i64 ((a1.Funcs.getD s15.toNat default).Locals)), .d (slT enc_api_Ins ((a1.Funcs.getD s15.toNat default).Code))])] (.one 0 true (.one 1 true (.one 2 true (.one 3 true (.one 4 true (.one 5 true (.one 6 true (.one 7 true (.one 8 true (.one 9 true (.fork (.one 10 false (.one 11 false (.one 12 false (.one 13 false .done)))) (.one 11 false (.one 10 false (.one 12 false (.one 13 false .done))))))))))))))) [102, 103] [102, 103] rfl (by kernel_rfl) rfl (by kernel_rfl) rfl rfl (fun _ h => h) rfl rfl rfl (fun FK NK wK K => ?_) ?_
   ·refine Hr 10 tk rfl rfl rfl rfl ⟨⟨(nIn_ok g16_3_1).1, (nIn_ok g16_3_1).2, rfl⟩, ⟨(nIn_ok g16_8_1).1, (nIn_ok g16_8_1).2, rfl⟩, tv⟩ (WH.fork ?_ ?_)
    ·exact WH.alloc 108 tk rfl rfl rfl rfl rfl rfl (WH.alloc 109 tk rfl rfl rfl rfl rfl rfl (He 0 tk ek rfl rfl rfl rfl tv rfl rfl (He 0 tk ek rfl rfl rfl rfl tv rfl rfl (Hn rfl (LessW.mk' ⟨Ao rfl, Ao rfl, Ao rfl, Ao rfl, Ao rfl, tv⟩ ⟨rfl, rfl, rfl, rfl, tv⟩)))))
    ·exact WH.alloc 109 tk rfl rfl rfl rfl rfl rfl (WH.alloc 108 tk rfl rfl rfl rfl rfl rfl (He 0 tk ek rfl rfl rfl rfl tv rfl rfl (He 0 tk ek rfl rfl rfl rfl tv rfl rfl (Hn rfl (LessW.mk' ⟨Ao rfl, Ao rfl, Ao rfl, Ao rfl, Ao rfl, tv⟩ ⟨rfl, rfl, rfl, rfl, tv⟩)))))
   ·refine Qn (Ws (Ws (Wg (Wr 6 tk sg0 rfl rfl tv (Wx 5 5 false tk sg0 rfl rfl (fun _ => tv) (Wr 2 tk sg0 rfl rfl ⟨by first | exact id | exact fun h => by rw [h]; rfl | simp_all, tv⟩ (Wx 7 12 false tk sg0 rfl rfl (fun _ => tv) (Wr 1 tk sg0 rfl rfl ⟨by first | exact id | exact fun h => by rw [h]; rfl | simp_all, tv⟩ (Wn (Qn (Wc rfl (fun h20 => ?_) (fun h20 => ?_))))))))))))
    ·replace H := of_t H h20
     refine Ws (Wg (Wr 1 tk sg0 rfl rfl tv (Wn (Qn (Wt (QT.r (QB.r (QT.r (QT.r (QB.r (QT.r ?_)))))))))))
     cases H
     exact Ea rfl rfl rfl tv
    replace H := of_f H h20
    refine Wk (Qn (Ws (Wg (Wr 1 tk sg0 rfl rfl tv (Wn (Qn (Wb (Wl (ι := {x : Nat × Int // ref10_Same_l22 a0 a1 s15 K18 x.1 x.2 = some r}) (fun x => [(2, .ptr 102 0), (3, .ptr 103 0), (7, .d (.int .i64 s15)), (8, .ptr 108 0), (9, .ptr 109 0), (10, .d (.int .i64 x.1.2))]) (fun x => [(102, .box 26 [.d (slT enc_api_Decl a0.Decls), .d (slT enc_sl_sl_api_Need a0.Waits), .d (slT enc_api_Func a0.Funcs)]), (103, .box 26 [.d (slT enc_api_Decl a1.Decls), .d (slT enc_sl_sl_api_Need a1.Waits), .d (slT enc_api_Func a1.Funcs)]), (108, .box 49 [.d (.int .i64 ((a0.Funcs.getD s15.toNat default).Args)), .d (.int .i64 ((a0.Funcs.getD s15.toNat default).Locals)), .d (slT enc_api_Ins ((a0.Funcs.getD s15.toNat default).Code))]), (109, .box 49 [.d (.int .i64 ((a1.Funcs.getD s15.toNat default).Args)), .d (.int .i64 ((a1.Funcs.getD s15.toNat default).Locals)), .d (slT enc_api_Ins ((a1.Funcs.getD s15.toNat default).Code))])]) (fun x => x.1.1) ⟨(fuel, 0), H⟩ (Less.mk' ⟨rfl, rfl, rfl, rfl, rfl, rfl, tv⟩ ⟨rfl, rfl, rfl, rfl, tv⟩) fun x => ?_))))))))
    obtain ⟨⟨k22, s21⟩, H⟩ := x
    rcases k22 with _ | k22
    ·exact of_none H
    rw [ref10_Same_l22] at H
    refine Ws (Ws (Wg (Wr 5 tk sg0 rfl rfl tv (Wn (Qn (Wc rfl (fun h23 => ?_) (fun h23 => ?_)))))))
    ·replace H := of_t H h23
     refine Wk (Qn (Ws (Wb (Ws (Hp (.one 0 true (.one 1 true (.one 2 true (.one 3 true (.one 4 true (.one 5 true (.one 6 true (.one 7 true (.one 8 true (.one 9 true (.one 10 true .done))))))))))) [102, 103, 108, 109] [102, 103, 108, 109] rfl (by kernel_rfl) rfl (by kernel_rfl) rfl rfl (fun _ h => h) rfl rfl rfl (fun _ _ _ h => h) fun FK NK wK K => ?_)))))
     obtain ⟨g24, H⟩ := of_need H
     obtain ⟨g25, H⟩ := of_need H
     refine Hr 10 tk rfl rfl rfl rfl ⟨⟨(nIn_ok g24).1, (nIn_ok g24).2, rfl⟩, ⟨(nIn_ok g25).1, (nIn_ok g25).2, rfl⟩, tv⟩ (WH.yv rfl (LJ.Y.structEq .neq (.inr rfl) rfl rfl rfl (by kernel_rfl) rfl) rfl rfl rfl (WH.nil rfl (Qn (Wc rfl (fun h26 => ?_) (fun h26 => ?_)))))
     ·replace H := of_t H h26
      refine Ws (Wg (Wr 1 tk sg0 rfl rfl tv (Wn (Qn (Wt (QB.r (QT.r (QT.r (QB.r (QB.r (QT.r (QT.r (QB.r (QT.r ?_))))))))))))))
      cases H
      exact Ea rfl rfl rfl tv
     replace H := of_f H h26
     refine Wk (Qb (Qn ?_))
     exact Wg (Wr 3 tk sg0 rfl rfl tv (Wn (Qn (⟨⟨(k22, IntKind.i64.wrap (s21 + 1)), H⟩, Nat.lt_succ_self _, Less.mk' ⟨rfl, rfl, rfl, rfl, rfl, rfl, tv⟩ ⟨rfl, rfl, rfl, rfl, tv⟩⟩))))
    replace H := of_f H h23
    refine WC.exit (Qx (Qx (Qh (Qb (Qn ?_)))))
    exact ⟨Unit.unit, H, LessW.mk' ⟨Ao rfl, Ao rfl, Ao rfl, tv⟩ ⟨rfl, rfl, tv⟩⟩
  ·rintro E m ⟨s19, H, hl⟩
   refine WC.lessW hl ?_
   replace H := (hK18 _).symm.trans H
   try dsimp only at H
   exact Wg (Wr 3 tk sg0 rfl rfl tv (Wn (Qn (⟨⟨(k16, IntKind.i64.wrap (s15 + 1)), H⟩, Nat.lt_succ_self _, Less.mk' ⟨rfl, rfl, rfl, tv⟩ ⟨rfl, rfl, tv⟩⟩))))
 replace H := of_f H h17
 refine WC.exit (Qx (Qx (Qh (Qn ?_))))
 refine Ws (Wg (Wr 1 tk sg0 rfl rfl tv (Wn (Qn (Wt ?_)))))
 cases H
 exact Ea rfl rfl rfl tv
theorem ref10_Same_f : hasFunc Tryd.prog 15 Tryd.f15 := ⟨Tryd.func15, rfl, by kernel_rfl⟩

theorem law10_lives_0  {r : Bool} (H : law10_lives = some r) : LJ.Spec Tryd.prog 12 [] [] (.d (.bool r)) [] := by
 refine LJ.Spec.code Tryd.func12 rfl 42 rfl rfl [] rfl fun w0 F0 S0 B0 => ?_
 unfold law10_lives at H
 refine Ws (Wg (Wr 1 tk sg0 rfl rfl tv (Wn (Qn (Ws (Wg (Wr 2 tk sg0 rfl rfl tv (We 108 tk ek eg0 rfl rfl rfl tv (WL.freezeT 108 enc_api_Ins ([(⟨0, 1, 0⟩ : T_api_Ins), (⟨21, 0, 0⟩ : T_api_Ins)] : List T_api_Ins) rfl rfl rfl rfl (Wr 1 tk sg0 rfl rfl tv (We 110 tk ek eg0 rfl rfl rfl tv (WL.freezeT 110 enc_api_Func ([(⟨0, 0, ([(⟨0, 1, 0⟩ : T_api_Ins), (⟨21, 0, 0⟩ : T_api_Ins)] : List T_api_Ins)⟩ : T_api_Func)] : List T_api_Func) rfl rfl rfl rfl (Wr 1 tk sg0 rfl rfl tv (Wa 101 tk rfl rfl rfl (We 0 tk ek eg0 rfl rfl rfl tv ?_)))))))))))))))
 refine Wn (Qn (Ws (Wg (Wr 1 tk sg0 rfl rfl tv (WL.le 13 (.agg [slT enc_api_Decl [], slT enc_sl_sl_api_Need [], slT enc_api_Func ([(⟨0, 0, ([(⟨0, 1, 0⟩ : T_api_Ins), (⟨21, 0, 0⟩ : T_api_Ins)] : List T_api_Ins)⟩ : T_api_Func)] : List T_api_Func)]) rfl (Le.agg (.cons (Le.nilT enc_api_Decl) (.cons (Le.nilT enc_sl_sl_api_Need) (.cons .rfl' .nil)))) ?_)))))
 obtain ⟨x1, hx1, H⟩ := of_bind H
 refine Wf [] (prog_Put_0 _ hx1) prog_Put_f rfl rfl tv rfl rfl rfl (Wr 5 tk sg0 rfl rfl tv (Wn (Qn (Ws (Wg (Wr 1 tk sg0 rfl rfl tv ?_))))))
 obtain ⟨x2, hx2, H⟩ := of_bind H
 refine Wf [] (prog_Get_0 _ hx2) prog_Get_f rfl rfl tv rfl rfl rfl (Wr 3 tk sg0 rfl rfl tv (Wa 104 tk rfl rfl rfl (We 0 tk ek eg0 rfl rfl rfl tv (Wr 1 tk sg0 rfl rfl tv (Wn (Qn (Ws (Wg (Wr 3 tk sg0 rfl rfl tv (Wx 2 2 true tk sg0 rfl rfl (fun _ => tv) (Wr 2 tk sg0 rfl rfl ⟨by first | exact id | exact fun h => by rw [h]; rfl | simp_all, tv⟩ ?_)))))))))))
 obtain ⟨x3, hx3, H⟩ := of_bind H
 refine Wx 3 6 true tk [PSig.at' ref10_Same_f (((sEq x1.1 (⟨#[76, 74, 1, 0, 0, 1, 0, 0, 2, 0, 2, 21]⟩ : ByteArray)) && (iEq x1.2 0)) = true) rfl (fun hb => Spec.le (args' := [.d (.agg [.nils, .nils, slT enc_api_Func ([(⟨0, 0, ([(⟨0, 1, 0⟩ : T_api_Ins), (⟨21, 0, 0⟩ : T_api_Ins)] : List T_api_Ins)⟩ : T_api_Func)] : List T_api_Func)]), .d (.agg [slT enc_api_Decl x2.1.Decls, slT enc_sl_sl_api_Need x2.1.Waits, slT enc_api_Func x2.1.Funcs])]) (args := [.d (.agg [slT enc_api_Decl [], slT enc_sl_sl_api_Need [], slT enc_api_Func ([(⟨0, 0, ([(⟨0, 1, 0⟩ : T_api_Ins), (⟨21, 0, 0⟩ : T_api_Ins)] : List T_api_Ins)⟩ : T_api_Func)] : List T_api_Func)]), .d (.agg [slT enc_api_Decl x2.1.Decls, slT enc_sl_sl_api_Need x2.1.Waits, slT enc_api_Func x2.1.Funcs])]) ⟨(AVle.le (Le.agg (.cons (Le.nilT enc_api_Decl) (.cons (Le.nilT enc_sl_sl_api_Need) (.cons .rfl' .nil))))), Ao rfl, tv⟩ (ref10_Same_0 (⟨[], [], ([(⟨0, 0, ([(⟨0, 1, 0⟩ : T_api_Ins), (⟨21, 0, 0⟩ : T_api_Ins)] : List T_api_Ins)⟩ : T_api_Func)] : List T_api_Func)⟩ : T_api_Program) x2.1 (of_t hx3 hb)))] rfl rfl (fun hb => ⟨⟨hb, rfl⟩, tv⟩) (Wr 2 tk sg0 rfl rfl ⟨by first | exact id | exact fun h => by rw [h]; rfl | simp_all, tv⟩ (Wx 2 11 true tk sg0 rfl rfl (fun _ => tv) (Wr 2 tk sg0 rfl rfl ⟨by first | exact id | exact fun h => by rw [h]; rfl | simp_all, tv⟩ ?_)))
 obtain ⟨x4, hx4, H⟩ := of_bind H
 refine Wx 3 15 true tk [PSig.at' prog_Check_f (((((sEq x1.1 (⟨#[76, 74, 1, 0, 0, 1, 0, 0, 2, 0, 2, 21]⟩ : ByteArray)) && (iEq x1.2 0)) && x3) && (iEq x2.2 0)) = true) rfl (fun hb => Spec.le (args' := [.d (.agg [.nils, .nils, .nils])]) (args := [.d (.agg [slT enc_api_Decl [], slT enc_sl_sl_api_Need [], slT enc_api_Func []])]) ⟨(AVle.le (Le.agg (.cons (Le.nilT enc_api_Decl) (.cons (Le.nilT enc_sl_sl_api_Need) (.cons (Le.nilT enc_api_Func) .nil))))), tv⟩ (prog_Check_0 (⟨[], [], []⟩ : T_api_Program) (of_t hx4 hb)))] rfl rfl (fun hb => ⟨⟨hb, rfl⟩, tv⟩) (Wr 2 tk sg0 rfl rfl ⟨by first | exact id | exact fun h => by rw [h]; rfl | simp_all, tv⟩ (Wn (Qn (Wt ?_))))
 cases H
 exact Ea rfl rfl rfl tv
theorem law10_lives_f : hasFunc Tryd.prog 12 Tryd.f12 := ⟨Tryd.func12, rfl, by kernel_rfl⟩

theorem law10_ProgChecks_0 (a0 : T_api_Program) {r : Bool} (H : law10_ProgChecks a0 = some r) : LJ.Spec Tryd.prog 3 [.d (.agg [slT enc_api_Decl a0.Decls, slT enc_sl_sl_api_Need a0.Waits, slT enc_api_Func a0.Funcs])] [] (.d (.bool r)) [] := by
 refine LJ.Spec.code Tryd.func3 rfl 45 rfl rfl [] rfl fun w0 F0 S0 B0 => ?_
 unfold law10_ProgChecks at H
 refine Ws (Wg (We 101 tk ek eg0 rfl rfl rfl tv (Wr 1 tk sg0 rfl rfl tv (Wn (Qn (Ws (Wg (Wr 1 tk sg0 rfl rfl tv ?_))))))))
 obtain ⟨x1, hx1, H⟩ := of_bind H
 refine Wf [] (law10_Own_0 _ hx1) law10_Own_f rfl rfl tv rfl rfl rfl (We 0 tk ek eg0 rfl rfl rfl tv (Wn (Qn (Ws (Wg (Wr 1 tk sg0 rfl rfl tv ?_))))))
 obtain ⟨x2, hx2, H⟩ := of_bind H
 refine Wf [] (ref10_Check_0 _ hx2) ref10_Check_f rfl rfl tv rfl rfl rfl (Wr 1 tk sg0 rfl rfl tv (Wn (Qn (Ws (Wg (Wr 1 tk sg0 rfl rfl tv ?_))))))
 obtain ⟨x3, hx3, H⟩ := of_bind H
 refine Wf [] (law10_Own_0 _ hx3) law10_Own_f rfl rfl tv rfl rfl rfl ?_
 obtain ⟨x4, hx4, H⟩ := of_bind H
 refine Wf [] (prog_Put_0 _ hx4) prog_Put_f rfl rfl tv rfl rfl rfl (Wr 5 tk sg0 rfl rfl tv (Wn (Qn (Ws (Ws (Wg (Wr 1 tk sg0 rfl rfl tv ?_)))))))
 obtain ⟨x5, hx5, H⟩ := of_bind H
 refine Wf [] (law10_Own_0 _ hx5) law10_Own_f rfl rfl tv rfl rfl rfl ?_
 obtain ⟨x6, hx6, H⟩ := of_bind H
 refine Wf [] (prog_Check_0 _ hx6) prog_Check_f rfl rfl tv rfl rfl rfl (Wr 3 tk sg0 rfl rfl tv (Wx 3 5 false tk sg0 rfl rfl (fun _ => tv) (Wr 1 tk sg0 rfl rfl ⟨by first | exact id | exact fun h => by rw [h]; rfl | simp_all, tv⟩ (Wn (Qn (Wc rfl (fun h7 => ?_) (fun h7 => ?_)))))))
 ·replace H := of_t H h7
  refine Ws (Wg (Wr 1 tk sg0 rfl rfl tv (Wn (Qn (Wt (QT.r ?_))))))
  cases H
  exact Ea rfl rfl rfl tv
 replace H := of_f H h7
 refine Wk (Qn (Ws (Wg (Wr 3 tk sg0 rfl rfl tv (Wx 2 2 true tk sg0 rfl rfl (fun _ => tv) (Wr 2 tk sg0 rfl rfl ⟨by first | exact id | exact fun h => by rw [h]; rfl | simp_all, tv⟩ (Wx 3 6 false tk sg0 rfl rfl (fun _ => tv) ?_)))))))
 obtain ⟨x8, hx8, H⟩ := of_bind H
 refine Wx 4 9 true tk [PSig.at' ref10_Put_f (((!((iNe x2 0) && (sEq x4.1 ByteArray.empty))) && (iEq x2 0)) = true) rfl (fun hb => ref10_Put_0 _ (of_t hx8 hb))] rfl rfl (fun hb => ⟨⟨hb, rfl⟩, tv⟩) (Wx 1 6 false tk sg0 rfl rfl (fun hb => ⟨by first | exact id | exact ⟨hb, fun h => by rw [hb, h]; rfl⟩ | exact ⟨hb, id⟩ | exact fun h => by rw [hb, h]; rfl | exact fun h => by rw [h]; rfl | simp_all, tv⟩) (Wr 2 tk sg0 rfl rfl ⟨by first | exact id | exact fun h => by rw [h]; rfl | simp_all, tv⟩ ?_))
 obtain ⟨x9, hx9, H⟩ := of_bind H
 refine Wx 1 16 true tk [PSig.at' law10_lives_f ((((iNe x2 0) && (sEq x4.1 ByteArray.empty)) || ((iEq x2 0) && (sEq x4.1 x8))) = true) rfl (fun hb => law10_lives_0  (of_t hx9 hb))] rfl rfl (fun hb => ⟨⟨hb, rfl⟩, tv⟩) (Wr 2 tk sg0 rfl rfl ⟨by first | exact id | exact fun h => by rw [h]; rfl | simp_all, tv⟩ (Wn (Qn (Wt ?_))))
 cases H
 exact Ea rfl rfl rfl tv

theorem ref01_Fail_0 (a0 : T_ref01_R) (a1 : Int) {r : T_ref01_R} (H : ref01_Fail a0 a1 = some r) : LJ.Spec Tryd.prog 93 [.d (.agg [.str a0.S, .int .i64 a0.At, .int .i64 a0.Err]), .d (.int .i64 a1)] [] (.d (.agg [.str r.S, .int .i64 r.At, .int .i64 r.Err])) [] := by
 refine LJ.Spec.code Tryd.func93 rfl 15 rfl rfl [] rfl fun w0 F0 S0 B0 => ?_
 unfold ref01_Fail at H
 refine Ws (Wg (We 102 tk ek eg0 rfl rfl rfl tv (Wa 104 tk rfl rfl rfl (Wn (Qn (Ws (Ws (Wg (Wr 3 tk sg0 rfl rfl tv (Wn (Qn (Wc rfl (fun h1 => ?_) (fun h1 => ?_)))))))))))))
 ·replace H := of_t H h1
  refine Wg (Wr 5 tk sg0 rfl rfl tv (We 0 tk ek eg0 rfl rfl rfl tv (Wr 1 tk sg0 rfl rfl tv (We 0 tk ek eg0 rfl rfl rfl tv (Wn (Qn (Ws (Wg (Wr 1 tk sg0 rfl rfl tv (We 0 tk ek eg0 rfl rfl rfl tv (Wn (Qn (Wt ?_)))))))))))))
  cases H
  exact Ends.autoC tk rfl rfl rfl tv
 replace H := of_f H h1
 refine Wk (Qn (Ws (Wg (Wr 1 tk sg0 rfl rfl tv (We 0 tk ek eg0 rfl rfl rfl tv (Wn (Qn (Wt ?_))))))))
 cases H
 exact Ends.autoC tk rfl rfl rfl tv
theorem ref01_Fail_f : hasFunc Tryd.prog 93 Tryd.f93 := ⟨Tryd.func93, rfl, by kernel_rfl⟩

theorem ref01_Byte_0 (a0 : T_ref01_R) {r : Int × T_ref01_R} (H : ref01_Byte a0 = some r) : LJ.Spec Tryd.prog 63 [.d (.agg [.str a0.S, .int .i64 a0.At, .int .i64 a0.Err])] [] (.tup [.d (.int .i64 r.1), .d (.agg [.str r.2.S, .int .i64 r.2.At, .int .i64 r.2.Err])]) [] := by
 refine LJ.Spec.code Tryd.func63 rfl 25 rfl rfl [] rfl fun w0 F0 S0 B0 => ?_
 unfold ref01_Byte at H
 refine Ws (Wg (We 101 tk ek eg0 rfl rfl rfl tv (Wr 1 tk sg0 rfl rfl tv (Wa 103 tk rfl rfl rfl (Wn (Qn (Ws (Ws (Wg (Wr 6 tk sg0 rfl rfl tv (Wn (Qn (Wc rfl (fun h1 => ?_) (fun h1 => ?_))))))))))))))
 ·replace H := of_t H h1
  refine Ws (Wg (Wr 1 tk sg0 rfl rfl tv ?_))
  obtain ⟨x2, hx2, H⟩ := of_bind H
  refine Wf [] (ref01_Fail_0 _ _ hx2) ref01_Fail_f rfl rfl tv rfl rfl rfl (Wr 1 tk sg0 rfl rfl tv (We 0 tk ek eg0 rfl rfl rfl tv (Wn (Qn (Wt (QT.r ?_))))))
  cases H
  exact Ends.autoC tk rfl rfl rfl tv
 replace H := of_f H h1
 refine Wk (Qn (Ws (Wg ?_)))
 obtain ⟨g3, H⟩ := of_need H
 refine Wr 7 tk sg0 rfl rfl ⟨(nIn_ok g3), tv⟩ (Wn (Qn (Ws (Wg (Wr 4 tk sg0 rfl rfl tv (We 0 tk ek eg0 rfl rfl rfl tv (Wn (Qn (Ws (Hp (.one 0 true (.one 1 true (.one 2 true (.one 3 false .done)))) [101, 103] [101] rfl (by kernel_rfl) rfl (by kernel_rfl) rfl rfl (fun _ h => h) rfl rfl rfl (fun _ _ _ h => h) fun FK NK wK K => (Hr 3 tk rfl rfl rfl rfl tv (He 0 tk ek rfl rfl rfl rfl tv rfl rfl (WH.nil rfl (Qn (Wt ?_)))))))))))))))
 cases H
 exact Ends.autoC tk rfl rfl rfl tv
theorem ref01_Byte_f : hasFunc Tryd.prog 63 Tryd.f63 := ⟨Tryd.func63, rfl, by kernel_rfl⟩

theorem ref01_Number_0 (a0 : T_ref01_R) {r : Int × T_ref01_R} (H : ref01_Number a0 = some r) : LJ.Spec Tryd.prog 65 [.d (.agg [.str a0.S, .int .i64 a0.At, .int .i64 a0.Err])] [] (.tup [.d (.int .u64 r.1), .d (.agg [.str r.2.S, .int .i64 r.2.At, .int .i64 r.2.Err])]) [] := by
 refine LJ.Spec.code Tryd.func65 rfl 52 rfl rfl [] rfl fun w0 F0 S0 B0 => ?_
 unfold ref01_Number at H
 refine Ws (Wg (We 101 tk ek eg0 rfl rfl rfl tv (Wr 1 tk sg0 rfl rfl tv (Wa 103 tk rfl rfl rfl (Wn (Qn (Ws (Wg (Wr 3 tk sg0 rfl rfl tv (Wn (Qn (Ws (Ws (Wg (Wr 1 tk sg0 rfl rfl tv (Wn (Qn (Wb (Wl (ι := {x : Nat × (Int × Int × Int × ByteArray × Int × Int) // ref01_Number_l2 x.1 x.2 = some r}) (fun x => [(1, .ptr 101 0), (3, .ptr 103 0), (4, .d (.int .u64 x.1.2.1)), (5, .d (.int .u64 x.1.2.2.1)), (7, .d (.int .i64 x.1.2.2.2.1))]) (fun x => [(101, .box 87 [.d (.str x.1.2.2.2.2.1), .d (.int .i64 x.1.2.2.2.2.2.1), .d (.int .i64 x.1.2.2.2.2.2.2)]), (103, .box 87 [.d (.str ByteArray.empty), .d (.int .i64 0), .d (.int .i64 0)])]) (fun x => x.1.1) ⟨(fuel, (0, 1, 0, a0.S, a0.At, a0.Err)), H⟩ (Less.mk' ⟨rfl, rfl, rfl, rfl, rfl, tv⟩ ⟨rfl, rfl, tv⟩) fun x => ?_)))))))))))))))))))
 obtain ⟨⟨k2, s1⟩, H⟩ := x
 rcases k2 with _ | k2
 ·exact of_none H
 rw [ref01_Number_l2] at H
 refine Ws (Ws (Wg (Wr 2 tk sg0 rfl rfl tv (Wn (Qn (Wc rfl (fun h3 => ?_) (fun h3 => ?_)))))))
 ·replace H := of_t H h3
  refine Wk (Qn (Ws (Wb (Ws (Wg (Wr 1 tk sg0 rfl rfl tv ?_))))))
  obtain ⟨x4, hx4, H⟩ := of_bind H
  refine Wf [] (ref01_Byte_0 _ hx4) ref01_Byte_f rfl rfl tv rfl rfl rfl (Wr 4 tk sg0 rfl rfl tv (We 0 tk ek eg0 rfl rfl rfl tv (Wn (Qn (Ws (Ws (Wg (Wr 3 tk sg0 rfl rfl tv (Wn (Qn (Wc rfl (fun h5 => ?_) (fun h5 => ?_))))))))))))
  ·replace H := of_t H h5
   refine Ws (Hp (.one 0 true (.one 1 true (.one 2 false .done))) [101, 103] [101] rfl (by kernel_rfl) rfl (by kernel_rfl) rfl rfl (fun _ h => h) rfl rfl rfl (fun _ _ _ h => h) fun FK NK wK K => (Hr 2 tk rfl rfl rfl rfl tv (He 0 tk ek rfl rfl rfl rfl tv rfl rfl (WH.nil rfl (Qn (Wt (QT.r (QB.r (QT.r (QT.r (QB.r (QT.r ?_))))))))))))
   cases H
   exact Ends.autoC tk rfl rfl rfl tv
  replace H := of_f H h5
  refine Wk (Qn (Ws (Ws (Wg (Wr 3 tk sg0 rfl rfl tv (Wx 2 2 true tk sg0 rfl rfl (fun _ => tv) (Wr 2 tk sg0 rfl rfl ⟨by first | exact id | exact fun h => by rw [h]; rfl | simp_all, tv⟩ (Wx 3 6 false tk sg0 rfl rfl (fun _ => tv) (Wx 2 9 true tk sg0 rfl rfl (fun _ => tv) (Wx 1 6 false tk sg0 rfl rfl (fun hb => ⟨by first | exact id | exact ⟨hb, fun h => by rw [hb, h]; rfl⟩ | exact ⟨hb, id⟩ | exact fun h => by rw [hb, h]; rfl | exact fun h => by rw [h]; rfl | simp_all, tv⟩) (Wr 1 tk sg0 rfl rfl ⟨by first | exact id | exact fun h => by rw [h]; rfl | simp_all, tv⟩ (Wn (Qn (Wc rfl (fun h6 => ?_) (fun h6 => ?_)))))))))))))))
  ·replace H := of_t H h6
   refine Ws (Wg (Wr 1 tk sg0 rfl rfl tv ?_))
   obtain ⟨x7, hx7, H⟩ := of_bind H
   refine Wf [] (ref01_Fail_0 _ _ hx7) ref01_Fail_f rfl rfl tv rfl rfl rfl (Wr 1 tk sg0 rfl rfl tv (We 0 tk ek eg0 rfl rfl rfl tv (Wn (Qn (Wt (QT.r (QB.r (QT.r (QT.r (QB.r (QT.r ?_)))))))))))
   cases H
   exact Ends.autoC tk rfl rfl rfl tv
  replace H := of_f H h6
  refine Wk (Qn (Ws (Wg (Wr 8 tk sg0 rfl rfl tv (Wn (Qn (Ws (Ws (Wg (Wr 2 tk sg0 rfl rfl tv (Wn (Qn (Wc rfl (fun h8 => ?_) (fun h8 => ?_))))))))))))))
  ·replace H := of_t H h8
   refine Ws (Hp (.one 0 true (.one 1 true (.one 2 true (.one 3 false .done)))) [101, 103] [101] rfl (by kernel_rfl) rfl (by kernel_rfl) rfl rfl (fun _ h => h) rfl rfl rfl (fun _ _ _ h => h) fun FK NK wK K => (Hr 3 tk rfl rfl rfl rfl tv (He 0 tk ek rfl rfl rfl rfl tv rfl rfl (WH.nil rfl (Qn (Wt (QT.r (QB.r (QT.r (QT.r (QB.r (QT.r ?_))))))))))))
   cases H
   exact Ends.autoC tk rfl rfl rfl tv
  replace H := of_f H h8
  refine Wk (Qn (Wg (Wr 3 tk sg0 rfl rfl tv (Wn (Qb (Qn ?_))))))
  exact Wg (Wr 3 tk sg0 rfl rfl tv (Wn (Qn (⟨⟨(k2, (IntKind.u64.wrap (s1.1 + (IntKind.u64.wrap ((IntKind.u64.wrap (Int.tmod x4.1 128)) * s1.2.1))), IntKind.u64.wrap (s1.2.1 * 128), IntKind.i64.wrap (s1.2.2.1 + 1), x4.2.S, x4.2.At, x4.2.Err)), H⟩, Nat.lt_succ_self _, Less.mk' ⟨rfl, rfl, rfl, rfl, rfl, tv⟩ ⟨rfl, rfl, tv⟩⟩))))
 replace H := of_f H h3
 refine WC.exit (Qx (Qx (Qh (Qn ?_))))
 refine Ws (Hp (.one 0 true (.one 1 true (.one 2 true (.one 3 false .done)))) [101, 103] [101] rfl (by kernel_rfl) rfl (by kernel_rfl) rfl rfl (fun _ h => h) rfl rfl rfl (fun _ _ _ h => h) fun FK NK wK K => (Hr 3 tk rfl rfl rfl rfl tv (He 0 tk ek rfl rfl rfl rfl tv rfl rfl (WH.nil rfl (Qn (Wt ?_))))))
 cases H
 exact Ends.autoC tk rfl rfl rfl tv
theorem ref01_Number_f : hasFunc Tryd.prog 65 Tryd.f65 := ⟨Tryd.func65, rfl, by kernel_rfl⟩

theorem ref08_num_0 (a0 : T_ref01_R) {r : Int × T_ref01_R} (H : ref08_num a0 = some r) : LJ.Spec Tryd.prog 62 [.d (.agg [.str a0.S, .int .i64 a0.At, .int .i64 a0.Err])] [] (.tup [.d (.int .i64 r.1), .d (.agg [.str r.2.S, .int .i64 r.2.At, .int .i64 r.2.Err])]) [] := by
 refine LJ.Spec.code Tryd.func62 rfl 15 rfl rfl [] rfl fun w0 F0 S0 B0 => ?_
 unfold ref08_num at H
 refine Ws (Wg (We 101 tk ek eg0 rfl rfl rfl tv (Wr 1 tk sg0 rfl rfl tv (Wa 103 tk rfl rfl rfl (Wn (Qn (Ws (Wg (Wr 1 tk sg0 rfl rfl tv ?_)))))))))
 obtain ⟨x1, hx1, H⟩ := of_bind H
 refine Wf [] (ref01_Number_0 _ hx1) ref01_Number_f rfl rfl tv rfl rfl rfl (Wr 3 tk sg0 rfl rfl tv (Wa 105 tk rfl rfl rfl (Wr 1 tk sg0 rfl rfl tv (We 0 tk ek eg0 rfl rfl rfl tv (Wn (Qn (Ws (Hp (.one 0 true (.one 1 true (.one 2 true (.one 3 true (.one 4 true (.one 5 false .done)))))) [101, 103, 105] [101, 105] rfl (by kernel_rfl) rfl (by kernel_rfl) rfl rfl (fun _ h => h) rfl rfl rfl (fun _ _ _ h => h) fun FK NK wK K => (Hr 1 tk rfl rfl rfl rfl tv (WH.yv rfl (LJ.Y.min rfl rfl rfl) rfl rfl rfl (Hr 3 tk rfl rfl rfl rfl tv (He 0 tk ek rfl rfl rfl rfl tv rfl rfl (WH.nil rfl (Qn (Wt ?_)))))))))))))))
 cases H
 exact Ends.autoC tk rfl rfl rfl tv
theorem ref08_num_f : hasFunc Tryd.prog 62 Tryd.f62 := ⟨Tryd.func62, rfl, by kernel_rfl⟩

theorem ref01_Signed_0 (a0 : T_ref01_R) {r : Int × T_ref01_R} (H : ref01_Signed a0 = some r) : LJ.Spec Tryd.prog 64 [.d (.agg [.str a0.S, .int .i64 a0.At, .int .i64 a0.Err])] [] (.tup [.d (.int .i64 r.1), .d (.agg [.str r.2.S, .int .i64 r.2.At, .int .i64 r.2.Err])]) [] := by
 refine LJ.Spec.code Tryd.func64 rfl 24 rfl rfl [] rfl fun w0 F0 S0 B0 => ?_
 unfold ref01_Signed at H
 refine Ws (Wg (We 101 tk ek eg0 rfl rfl rfl tv (Wr 1 tk sg0 rfl rfl tv (Wa 103 tk rfl rfl rfl (Wn (Qn (Ws (Wg (Wr 1 tk sg0 rfl rfl tv ?_)))))))))
 obtain ⟨x1, hx1, H⟩ := of_bind H
 refine Wf [] (ref01_Number_0 _ hx1) ref01_Number_f rfl rfl tv rfl rfl rfl (Wr 3 tk sg0 rfl rfl tv (Wa 105 tk rfl rfl rfl (Wr 1 tk sg0 rfl rfl tv (We 0 tk ek eg0 rfl rfl rfl tv (Wn (Qn (Ws (Ws (Wg (Wr 3 tk sg0 rfl rfl tv (Wn (Qn (Wc rfl (fun h2 => ?_) (fun h2 => ?_))))))))))))))
 ·replace H := of_t H h2
  refine Ws (Hp (.one 0 true (.one 1 true (.one 2 true (.one 3 true (.one 4 true (.one 5 false .done)))))) [101, 103, 105] [101, 105] rfl (by kernel_rfl) rfl (by kernel_rfl) rfl rfl (fun _ h => h) rfl rfl rfl (fun _ _ _ h => h) fun FK NK wK K => (Hr 5 tk rfl rfl rfl rfl tv (He 0 tk ek rfl rfl rfl rfl tv rfl rfl (WH.nil rfl (Qn (Wt (QT.r ?_)))))))
  cases H
  exact Ends.autoC tk rfl rfl rfl tv
 replace H := of_f H h2
 refine Wk (Qn (Ws (Hp (.one 0 true (.one 1 true (.one 2 true (.one 3 true (.one 4 true (.one 5 true (.one 6 true (.one 7 false .done)))))))) [101, 103, 105] [101, 105] rfl (by kernel_rfl) rfl (by kernel_rfl) rfl rfl (fun _ h => h) rfl rfl rfl (fun _ _ _ h => h) fun FK NK wK K => (Hr 7 tk rfl rfl rfl rfl tv (He 0 tk ek rfl rfl rfl rfl tv rfl rfl (WH.nil rfl (Qn (Wt ?_))))))))
 cases H
 exact Ends.autoC tk rfl rfl rfl tv
theorem ref01_Signed_f : hasFunc Tryd.prog 64 Tryd.f64 := ⟨Tryd.func64, rfl, by kernel_rfl⟩

end Go.Proofs.YtdeekbpniinmbaaDoor.W
