/- Each Go function comes to what its plain function gives, where that gives something. -/
import Derived.Test.YtdeekbpniinmbaaDoorPF
import Derived.Test.YtdeekbpniinmbaaDoorSq
import Derived.Test.YtdeekbpniinmbaaDoorWF2
import Derived.Test.YtdeekbpniinmbaaDoorXDef
import Derived.Test.YtdeekbpniinmbaaDoorXPan
import Derived.Test.YtdeekbpniinmbaaDoorXShelf
namespace Go.Proofs.YtdeekbpniinmbaaDoor.W
open Go Go.RowKit LJ
set_option linter.unusedVariables false
set_option linter.unusedSimpArgs false
set_option maxRecDepth 10000
theorem ref08_Read_0 (a0 : T_ref01_R) {r : (List T_api_Decl) × T_ref01_R × Int} (H : ref08_Read a0 = some r) : LJ.Spec Tryd.prog 36 [.d (.agg [.str a0.S, .int .i64 a0.At, .int .i64 a0.Err])] [] (.tup [.d (slT enc_api_Decl r.1), .d (.agg [.str r.2.1.S, .int .i64 r.2.1.At, .int .i64 r.2.1.Err]), .d (.int .i64 r.2.2)]) [] := by
 refine LJ.Spec.code Tryd.func36 rfl 119 rfl rfl [] rfl fun w0 F0 S0 B0 => ?_
 unfold ref08_Read at H
 refine Ws (Wg (We 101 tk ek eg0 rfl rfl rfl tv (Wr 1 tk sg0 rfl rfl tv (Wa 103 tk rfl rfl rfl (Wr 1 tk sg0 rfl rfl tv (Wn (Qn (Ws (Wg (Wr 1 tk sg0 rfl rfl tv ?_))))))))))
 obtain ⟨x1, hx1, H⟩ := of_bind H
 refine Wf [] (ref08_num_0 _ hx1) ref08_num_f rfl rfl tv rfl rfl rfl (Wr 3 tk sg0 rfl rfl tv (Wa 106 tk rfl rfl rfl (Wr 1 tk sg0 rfl rfl tv (We 0 tk ek eg0 rfl rfl rfl tv (Wn (Qn (Ws (Ws (Wg (Wr 3 tk sg0 rfl rfl tv (Wn (Qn (Wc rfl (fun h2 => ?_) (fun h2 => ?_))))))))))))))
 ·replace H := of_t H h2
  refine Ws (Hp (.one 0 true (.one 1 true (.one 2 true (.one 3 true (.one 4 false (.one 5 true .done)))))) [101, 103, 106] [101, 106] rfl (by kernel_rfl) rfl (by kernel_rfl) rfl rfl (fun _ h => h) rfl rfl rfl (fun _ _ _ h => h) fun FK NK wK K => (Hr 4 tk rfl rfl rfl rfl tv (He 0 tk ek rfl rfl rfl rfl tv rfl rfl (Hr 1 tk rfl rfl rfl rfl tv (WH.nil rfl (Qn (WC.nilT 2 enc_api_Decl rfl (Wt (QT.r ?_)))))))))
  cases H
  exact Ends.autoC tk rfl rfl rfl tv
 replace H := of_f H h2
 refine Wk (Qn (Ws (Ws (Wg (Wr 2 tk sg0 rfl rfl tv (Wn (Qn (Wc rfl (fun h3 => ?_) (fun h3 => ?_)))))))))
 ·replace H := of_t H h3
  refine Ws (Hp (.one 0 true (.one 1 true (.one 2 false (.one 3 true .done)))) [101, 103, 106] [101, 106] rfl (by kernel_rfl) rfl (by kernel_rfl) rfl rfl (fun _ h => h) rfl rfl rfl (fun _ _ _ h => h) fun FK NK wK K => (Hr 2 tk rfl rfl rfl rfl tv (He 0 tk ek rfl rfl rfl rfl tv rfl rfl (Hr 1 tk rfl rfl rfl rfl tv (WH.nil rfl (Qn (WC.nilT 2 enc_api_Decl rfl (Wt (QT.r ?_)))))))))
  cases H
  exact Ends.autoC tk rfl rfl rfl tv
 replace H := of_f H h3
 refine Wk (Qn (Ws (Wg (We 134 tk ek eg0 rfl rfl rfl tv (Wr 1 tk sg0 rfl rfl tv (Wn (Qn (Ws (Ws (Wg (Wr 1 tk sg0 rfl rfl tv (Wn (Qn (Wb (Wl (ι := {x : Nat × (Int × ByteArray × Int × Int × (List T_api_Decl)) // ref08_Read_l5 x1 x.1 x.2 = some r}) (fun x => [(3, .ptr 103 0), (5, .d (.int .i64 x1.1)), (6, .ptr 106 0), (7, .own 134), (8, .d (.int .i64 x.1.2.1))]) (fun x => [(103, .box 87 [.d (.str ByteArray.empty), .d (.int .i64 0), .d (.int .i64 0)]), (106, .box 87 [.d (.str x.1.2.2.1), .d (.int .i64 x.1.2.2.2.1), .d (.int .i64 x.1.2.2.2.2.1)]), (134, .row 44 3 (x.1.2.2.2.2.2.map enc_api_Decl))]) (fun x => x.1.1) ⟨(fuel, (0, x1.2.S, x1.2.At, x1.2.Err, ([] : List T_api_Decl))), H⟩ (Less.mk' ⟨rfl, rfl, rfl, rfl, rfl, tv⟩ ⟨rfl, rfl, rfl, tv⟩) fun x => ?_)))))))))))))))
 obtain ⟨⟨k5, s4⟩, H⟩ := x
 rcases k5 with _ | k5
 ·exact of_none H
 rw [ref08_Read_l5] at H
 refine Ws (Ws (Wg (Wr 3 tk sg0 rfl rfl tv (Wn (Qn (Wc rfl (fun h6 => ?_) (fun h6 => ?_)))))))
 ·replace H := of_t H h6
  refine Wk (Qn ?_)
  obtain ⟨K7, hK7, H⟩ := of_withK H
  refine WC.cut (fun E m => ∃ s8 : ByteArray × Int × Int × (List T_api_Decl), K7 s8 = some r ∧ LessW E m [(3, .ptr 103 0), (5, .d (.int .i64 x1.1)), (6, .ptr 106 0), (7, .own 134), (8, .d (.int .i64 s4.1))] [(103, .box 87 [.d (.str ByteArray.empty), .d (.int .i64 0), .d (.int .i64 0)]), (106, .box 87 [.d (.str s8.1), .d (.int .i64 s8.2.1), .d (.int .i64 s8.2.2.1)]), (134, .row 44 3 (s8.2.2.2.map enc_api_Decl))]) ?_ ?_
  ·refine Wb (Ws (Wg (Wr 1 tk sg0 rfl rfl tv ?_)))
   obtain ⟨x9, hx9, H⟩ := of_bind H
   refine Wf [] (ref01_Byte_0 _ hx9) ref01_Byte_f rfl rfl tv rfl rfl rfl (Wr 3 tk sg0 rfl rfl tv (Wa 110 tk rfl rfl rfl (Wr 1 tk sg0 rfl rfl tv (We 0 tk ek eg0 rfl rfl rfl tv (Wn (Qn (Ws (Ws (Wg (Wr 4 tk sg0 rfl rfl tv (Wx 3 3 true tk sg0 rfl rfl (fun _ => tv) (Wx 2 6 false tk sg0 rfl rfl (fun _ => tv) (Wx 1 3 true tk sg0 rfl rfl (fun hb => ⟨by first | exact id | exact ⟨hb, fun h => by rw [hb, h]; rfl⟩ | exact ⟨hb, id⟩ | exact fun h => by rw [hb, h]; rfl | exact fun h => by rw [h]; rfl | simp_all, tv⟩) (Wr 1 tk sg0 rfl rfl ⟨by first | exact id | exact fun h => by rw [h]; rfl | simp_all, tv⟩ ?_))))))))))))))
   refine Wn (Qn (Wc rfl (fun h10 => ?_) (fun h10 => ?_)))
   ·replace H := of_t H h10
    refine Ws (Hp (.one 0 true (.one 1 true (.one 2 false (.one 3 true .done)))) [103, 106, 110] [106, 110] rfl (by kernel_rfl) rfl (by kernel_rfl) rfl rfl (fun _ h => h) rfl rfl rfl (fun _ _ _ h => h) fun FK NK wK K => (Hr 2 tk rfl rfl rfl rfl tv (He 0 tk ek rfl rfl rfl rfl tv rfl rfl (Hr 1 tk rfl rfl rfl rfl tv (WH.nil rfl (Qn (WC.nilT 2 enc_api_Decl rfl (Wt (QT.r (QB.r (QT.r (QT.r (QB.r (QT.r ?_))))))))))))))
    cases H
    exact Ends.autoC tk rfl rfl rfl tv
   replace H := of_f H h10
   refine Wk (Qn (Ws (Wg (Wr 2 tk sg0 rfl rfl tv (Wa 111 tk rfl rfl rfl (We 0 tk ek eg0 rfl rfl rfl tv (Wn (Qn (Ws (Ws (Wg (Wr 3 tk sg0 rfl rfl tv (Wx 2 2 false tk sg0 rfl rfl (fun _ => tv) (Wr 1 tk sg0 rfl rfl ⟨by first | exact id | exact fun h => by rw [h]; rfl | simp_all, tv⟩ (Wn (Qn (Wc rfl (fun h11 => ?_) (fun h11 => ?_))))))))))))))))))
   ·replace H := of_t H h11
    refine Ws (Wg (Wr 1 tk sg0 rfl rfl tv ?_))
    obtain ⟨x12, hx12, H⟩ := of_bind H
    refine Wf [] (ref08_num_0 _ hx12) ref08_num_f rfl rfl tv rfl rfl rfl (Wr 3 tk sg0 rfl rfl tv (Wa 113 tk rfl rfl rfl (Wr 1 tk sg0 rfl rfl tv (We 0 tk ek eg0 rfl rfl rfl tv (Wn (Qn (Hp (.one 0 true (.one 1 true (.one 2 true (.one 3 false (.one 4 false .done))))) [103, 106, 110, 111, 113] [103, 106, 113] rfl (by kernel_rfl) rfl (by kernel_rfl) rfl rfl (fun _ h => h) rfl rfl rfl (fun _ _ _ h => h) fun FK NK wK K => (Hr 3 tk rfl rfl rfl rfl tv (He 0 tk ek rfl rfl rfl rfl tv rfl rfl (He 0 tk ek rfl rfl rfl rfl tv rfl rfl (WH.nil rfl (Qn (Ws (Ws (Wg (Wr 2 tk sg0 rfl rfl tv (Wn (Qn (Wc rfl (fun h13 => ?_) (fun h13 => ?_))))))))))))))))))))
    ·replace H := of_t H h13
     refine Ws (Wg (Wr 1 tk sg0 rfl rfl tv ?_))
     obtain ⟨x14, hx14, H⟩ := of_bind H
     refine Wf [] (ref01_Signed_0 _ hx14) ref01_Signed_f rfl rfl tv rfl rfl rfl (Wr 3 tk sg0 rfl rfl tv (Wa 115 tk rfl rfl rfl (Wr 1 tk sg0 rfl rfl tv (We 0 tk ek eg0 rfl rfl rfl tv (Wn (Qn (Hp (.one 0 true (.one 1 true (.one 2 true (.one 3 false (.one 4 false .done))))) [103, 106, 110, 111, 113, 115] [103, 106, 113, 115] rfl (by kernel_rfl) rfl (by kernel_rfl) rfl rfl (fun _ h => h) rfl rfl rfl (fun _ _ _ h => h) fun FK NK wK K => (Hr 3 tk rfl rfl rfl rfl tv (He 0 tk ek rfl rfl rfl rfl tv rfl rfl (He 0 tk ek rfl rfl rfl rfl tv rfl rfl (WH.nil rfl (Qn (Ws (Ws (Wg (Wr 3 tk sg0 rfl rfl tv (Wx 2 2 false tk sg0 rfl rfl (fun _ => tv) ?_)))))))))))))))))
     refine Wr 1 tk sg0 rfl rfl ⟨by first | exact id | exact fun h => by rw [h]; rfl | simp_all, tv⟩ (Wn (Qn (Wc rfl (fun h15 => ?_) (fun h15 => ?_))))
     ·replace H := of_t H h15
      refine Ws (Wg (Wr 1 tk sg0 rfl rfl tv ?_))
      obtain ⟨x16, hx16, H⟩ := of_bind H
      refine Wf [] (ref08_num_0 _ hx16) ref08_num_f rfl rfl tv rfl rfl rfl (Wr 3 tk sg0 rfl rfl tv (Wa 117 tk rfl rfl rfl (Wr 1 tk sg0 rfl rfl tv (We 0 tk ek eg0 rfl rfl rfl tv (Wn (Qn (Hp (.one 0 true (.one 1 true (.one 2 true (.one 3 false (.one 4 false .done))))) [103, 106, 110, 111, 113, 115, 117] [103, 106, 113, 115, 117] rfl (by kernel_rfl) rfl (by kernel_rfl) rfl rfl (fun _ h => h) rfl rfl rfl (fun _ _ _ h => h) fun FK NK wK K => (Hr 3 tk rfl rfl rfl rfl tv (He 0 tk ek rfl rfl rfl rfl tv rfl rfl (He 0 tk ek rfl rfl rfl rfl tv rfl rfl (WH.nil rfl (Qn (Ws (Ws (Wg (Wr 3 tk sg0 rfl rfl tv (Wn (Qn (Wc rfl (fun h17 => ?_) (fun h17 => ?_))))))))))))))))))))
      ·replace H := of_t H h17
       refine Ws (Hp (.one 0 true (.one 1 true (.one 2 true (.one 3 true (.one 4 false (.one 5 true .done)))))) [103, 106, 110, 111, 113, 115, 117] [106, 110, 111, 113, 115, 117] rfl (by kernel_rfl) rfl (by kernel_rfl) rfl rfl (fun _ h => h) rfl rfl rfl (fun _ _ _ h => h) fun FK NK wK K => (Hr 4 tk rfl rfl rfl rfl tv (He 0 tk ek rfl rfl rfl rfl tv rfl rfl (Hr 1 tk rfl rfl rfl rfl tv (WH.nil rfl (Qn (WC.nilT 2 enc_api_Decl rfl (Wt (QT.r (QB.r (QT.r (QT.r (QB.r (QT.r ?_))))))))))))))
       cases H
       exact Ends.autoC tk rfl rfl rfl tv
      replace H := of_f H h17
      refine Wk (Qn (Hp (.one 0 true (.one 1 true (.one 4 true (.one 2 false (.one 3 false (.one 5 true (.one 6 false .done))))))) [103, 106, 110, 111, 113, 115, 117] [103, 110, 111, 113, 115, 117] rfl (by kernel_rfl) rfl (by kernel_rfl) rfl rfl (fun _ h => h) rfl rfl rfl (fun _ _ _ h => h) fun FK NK wK K => (WH.mv rfl rfl rfl rfl rfl rfl rfl rfl rfl (Hr 2 tk rfl rfl rfl rfl tv (He 205 tk ek rfl rfl rfl rfl tv rfl rfl (WH.freezeT 205 enc_api_Decl ([(⟨x9.1, x14.1, x16.1⟩ : T_api_Decl)] : List T_api_Decl) rfl rfl rfl rfl ?_))))))
      obtain ⟨g18, H⟩ := of_need H
      refine WH.appT enc_api_Decl s4.2.2.2.2 ([(⟨x9.1, x14.1, x16.1⟩ : T_api_Decl)] : List T_api_Decl) tk ek rfl rfl (fun _ => rfl) (fun _ => rfl) rfl rfl rfl rfl rfl (nCap_ok g18) rfl rfl rfl rfl rfl rfl rfl ?_
      refine WH.mv rfl rfl rfl rfl rfl rfl rfl rfl rfl (He 0 tk ek rfl rfl rfl rfl tv rfl rfl (WH.nil rfl (Qb (Qn ?_))))
      exact ⟨(x16.2.S, x16.2.At, x16.2.Err, s4.2.2.2.2 ++ ([(⟨x9.1, x14.1, x16.1⟩ : T_api_Decl)] : List T_api_Decl)), H, LessW.mk' ⟨Ao rfl, Ao rfl, Ao rfl, Ao rfl, Ao rfl, tv⟩ ⟨rfl, rfl, rfl, tv⟩⟩
     replace H := of_f H h15
     refine Wk (Qn (Ws (Ws (Wg (Wr 3 tk sg0 rfl rfl tv (Wn (Qn (Wc rfl (fun h19 => ?_) (fun h19 => ?_)))))))))
     ·replace H := of_t H h19
      refine Ws (Hp (.one 0 true (.one 1 true (.one 2 true (.one 3 true (.one 4 false (.one 5 true .done)))))) [103, 106, 110, 111, 113, 115] [106, 110, 111, 113, 115] rfl (by kernel_rfl) rfl (by kernel_rfl) rfl rfl (fun _ h => h) rfl rfl rfl (fun _ _ _ h => h) fun FK NK wK K => (Hr 4 tk rfl rfl rfl rfl tv (He 0 tk ek rfl rfl rfl rfl tv rfl rfl (Hr 1 tk rfl rfl rfl rfl tv (WH.nil rfl (Qn (WC.nilT 2 enc_api_Decl rfl (Wt (QT.r (QB.r (QT.r (QT.r (QB.r (QT.r ?_))))))))))))))
      cases H
      exact Ends.autoC tk rfl rfl rfl tv
     replace H := of_f H h19
     refine Wk (Qn (Hp (.one 0 true (.one 1 true (.one 4 true (.one 2 false (.one 3 false (.one 5 true (.one 6 false .done))))))) [103, 106, 110, 111, 113, 115] [103, 110, 111, 113, 115] rfl (by kernel_rfl) rfl (by kernel_rfl) rfl rfl (fun _ h => h) rfl rfl rfl (fun _ _ _ h => h) fun FK NK wK K => (WH.mv rfl rfl rfl rfl rfl rfl rfl rfl rfl (Hr 2 tk rfl rfl rfl rfl tv (He 205 tk ek rfl rfl rfl rfl tv rfl rfl (WH.freezeT 205 enc_api_Decl ([(⟨x9.1, x14.1, 0⟩ : T_api_Decl)] : List T_api_Decl) rfl rfl rfl rfl ?_))))))
     obtain ⟨g20, H⟩ := of_need H
     refine WH.appT enc_api_Decl s4.2.2.2.2 ([(⟨x9.1, x14.1, 0⟩ : T_api_Decl)] : List T_api_Decl) tk ek rfl rfl (fun _ => rfl) (fun _ => rfl) rfl rfl rfl rfl rfl (nCap_ok g20) rfl rfl rfl rfl rfl rfl rfl ?_
     refine WH.mv rfl rfl rfl rfl rfl rfl rfl rfl rfl (He 0 tk ek rfl rfl rfl rfl tv rfl rfl (WH.nil rfl (Qb (Qn ?_))))
     exact ⟨(x14.2.S, x14.2.At, x14.2.Err, s4.2.2.2.2 ++ ([(⟨x9.1, x14.1, 0⟩ : T_api_Decl)] : List T_api_Decl)), H, LessW.mk' ⟨Ao rfl, Ao rfl, Ao rfl, Ao rfl, Ao rfl, tv⟩ ⟨rfl, rfl, rfl, tv⟩⟩
    replace H := of_f H h13
    refine Wk (Qn (Ws (Ws (Wg (Wr 3 tk sg0 rfl rfl tv (Wx 2 2 false tk sg0 rfl rfl (fun _ => tv) (Wr 1 tk sg0 rfl rfl ⟨by first | exact id | exact fun h => by rw [h]; rfl | simp_all, tv⟩ (Wn (Qn (Wc rfl (fun h21 => ?_) (fun h21 => ?_)))))))))))
    ·replace H := of_t H h21
     refine Ws (Wg (Wr 1 tk sg0 rfl rfl tv ?_))
     obtain ⟨x22, hx22, H⟩ := of_bind H
     refine Wf [] (ref08_num_0 _ hx22) ref08_num_f rfl rfl tv rfl rfl rfl (Wr 3 tk sg0 rfl rfl tv (Wa 117 tk rfl rfl rfl (Wr 1 tk sg0 rfl rfl tv (We 0 tk ek eg0 rfl rfl rfl tv (Wn (Qn (Hp (.one 0 true (.one 1 true (.one 2 true (.one 3 false (.one 4 false .done))))) [103, 106, 110, 111, 113, 117] [103, 106, 113, 117] rfl (by kernel_rfl) rfl (by kernel_rfl) rfl rfl (fun _ h => h) rfl rfl rfl (fun _ _ _ h => h) fun FK NK wK K => (Hr 3 tk rfl rfl rfl rfl tv (He 0 tk ek rfl rfl rfl rfl tv rfl rfl (He 0 tk ek rfl rfl rfl rfl tv rfl rfl (WH.nil rfl (Qn (Ws (Ws (Wg (Wr 3 tk sg0 rfl rfl tv (Wn (Qn (Wc rfl (fun h23 => ?_) (fun h23 => ?_))))))))))))))))))))
     ·replace H := of_t H h23
      refine Ws (Hp (.one 0 true (.one 1 true (.one 2 true (.one 3 true (.one 4 false (.one 5 true .done)))))) [103, 106, 110, 111, 113, 117] [106, 110, 111, 113, 117] rfl (by kernel_rfl) rfl (by kernel_rfl) rfl rfl (fun _ h => h) rfl rfl rfl (fun _ _ _ h => h) fun FK NK wK K => (Hr 4 tk rfl rfl rfl rfl tv (He 0 tk ek rfl rfl rfl rfl tv rfl rfl (Hr 1 tk rfl rfl rfl rfl tv (WH.nil rfl (Qn (WC.nilT 2 enc_api_Decl rfl (Wt (QT.r (QB.r (QT.r (QT.r (QB.r (QT.r ?_))))))))))))))
      cases H
      exact Ends.autoC tk rfl rfl rfl tv
     replace H := of_f H h23
     refine Wk (Qn (Hp (.one 0 true (.one 1 true (.one 4 true (.one 2 false (.one 3 false (.one 5 true (.one 6 false .done))))))) [103, 106, 110, 111, 113, 117] [103, 110, 111, 113, 117] rfl (by kernel_rfl) rfl (by kernel_rfl) rfl rfl (fun _ h => h) rfl rfl rfl (fun _ _ _ h => h) fun FK NK wK K => (WH.mv rfl rfl rfl rfl rfl rfl rfl rfl rfl (Hr 2 tk rfl rfl rfl rfl tv (He 205 tk ek rfl rfl rfl rfl tv rfl rfl (WH.freezeT 205 enc_api_Decl ([(⟨x9.1, x12.1, x22.1⟩ : T_api_Decl)] : List T_api_Decl) rfl rfl rfl rfl ?_))))))
     obtain ⟨g24, H⟩ := of_need H
     refine WH.appT enc_api_Decl s4.2.2.2.2 ([(⟨x9.1, x12.1, x22.1⟩ : T_api_Decl)] : List T_api_Decl) tk ek rfl rfl (fun _ => rfl) (fun _ => rfl) rfl rfl rfl rfl rfl (nCap_ok g24) rfl rfl rfl rfl rfl rfl rfl ?_
     refine WH.mv rfl rfl rfl rfl rfl rfl rfl rfl rfl (He 0 tk ek rfl rfl rfl rfl tv rfl rfl (WH.nil rfl (Qb (Qn ?_))))
     exact ⟨(x22.2.S, x22.2.At, x22.2.Err, s4.2.2.2.2 ++ ([(⟨x9.1, x12.1, x22.1⟩ : T_api_Decl)] : List T_api_Decl)), H, LessW.mk' ⟨Ao rfl, Ao rfl, Ao rfl, Ao rfl, Ao rfl, tv⟩ ⟨rfl, rfl, rfl, tv⟩⟩
    replace H := of_f H h21
    refine Wk (Qn (Ws (Ws (Wg (Wr 3 tk sg0 rfl rfl tv (Wn (Qn (Wc rfl (fun h25 => ?_) (fun h25 => ?_)))))))))
    ·replace H := of_t H h25
     refine Ws (Hp (.one 0 true (.one 1 true (.one 2 true (.one 3 true (.one 4 false (.one 5 true .done)))))) [103, 106, 110, 111, 113] [106, 110, 111, 113] rfl (by kernel_rfl) rfl (by kernel_rfl) rfl rfl (fun _ h => h) rfl rfl rfl (fun _ _ _ h => h) fun FK NK wK K => (Hr 4 tk rfl rfl rfl rfl tv (He 0 tk ek rfl rfl rfl rfl tv rfl rfl (Hr 1 tk rfl rfl rfl rfl tv (WH.nil rfl (Qn (WC.nilT 2 enc_api_Decl rfl (Wt (QT.r (QB.r (QT.r (QT.r (QB.r (QT.r ?_))))))))))))))
     cases H
     exact Ends.autoC tk rfl rfl rfl tv
    replace H := of_f H h25
    refine Wk (Qn (Hp (.one 0 true (.one 1 true (.one 4 true (.one 2 false (.one 3 false (.one 5 true (.one 6 false .done))))))) [103, 106, 110, 111, 113] [103, 110, 111, 113] rfl (by kernel_rfl) rfl (by kernel_rfl) rfl rfl (fun _ h => h) rfl rfl rfl (fun _ _ _ h => h) fun FK NK wK K => (WH.mv rfl rfl rfl rfl rfl rfl rfl rfl rfl (Hr 2 tk rfl rfl rfl rfl tv (He 205 tk ek rfl rfl rfl rfl tv rfl rfl (WH.freezeT 205 enc_api_Decl ([(⟨x9.1, x12.1, 0⟩ : T_api_Decl)] : List T_api_Decl) rfl rfl rfl rfl ?_))))))
    obtain ⟨g26, H⟩ := of_need H
    refine WH.appT enc_api_Decl s4.2.2.2.2 ([(⟨x9.1, x12.1, 0⟩ : T_api_Decl)] : List T_api_Decl) tk ek rfl rfl (fun _ => rfl) (fun _ => rfl) rfl rfl rfl rfl rfl (nCap_ok g26) rfl rfl rfl rfl rfl rfl rfl ?_
    refine WH.mv rfl rfl rfl rfl rfl rfl rfl rfl rfl (He 0 tk ek rfl rfl rfl rfl tv rfl rfl (WH.nil rfl (Qb (Qn ?_))))
    exact ⟨(x12.2.S, x12.2.At, x12.2.Err, s4.2.2.2.2 ++ ([(⟨x9.1, x12.1, 0⟩ : T_api_Decl)] : List T_api_Decl)), H, LessW.mk' ⟨Ao rfl, Ao rfl, Ao rfl, Ao rfl, Ao rfl, tv⟩ ⟨rfl, rfl, rfl, tv⟩⟩
   replace H := of_f H h11
   refine Wk (Qn (Ws (Ws (Wg (Wr 2 tk sg0 rfl rfl tv (Wn (Qn (Wc rfl (fun h27 => ?_) (fun h27 => ?_)))))))))
   ·replace H := of_t H h27
    refine Ws (Wg (Wr 1 tk sg0 rfl rfl tv ?_))
    obtain ⟨x28, hx28, H⟩ := of_bind H
    refine Wf [] (ref01_Signed_0 _ hx28) ref01_Signed_f rfl rfl tv rfl rfl rfl (Wr 3 tk sg0 rfl rfl tv (Wa 115 tk rfl rfl rfl (Wr 1 tk sg0 rfl rfl tv (We 0 tk ek eg0 rfl rfl rfl tv (Wn (Qn (Hp (.one 0 true (.one 1 true (.one 2 true (.one 3 false (.one 4 false .done))))) [103, 106, 110, 111, 115] [103, 106, 115] rfl (by kernel_rfl) rfl (by kernel_rfl) rfl rfl (fun _ h => h) rfl rfl rfl (fun _ _ _ h => h) fun FK NK wK K => (Hr 3 tk rfl rfl rfl rfl tv (He 0 tk ek rfl rfl rfl rfl tv rfl rfl (He 0 tk ek rfl rfl rfl rfl tv rfl rfl (WH.nil rfl (Qn (Ws (Ws (Wg (Wr 3 tk sg0 rfl rfl tv (Wx 2 2 false tk sg0 rfl rfl (fun _ => tv) ?_)))))))))))))))))
    refine Wr 1 tk sg0 rfl rfl ⟨by first | exact id | exact fun h => by rw [h]; rfl | simp_all, tv⟩ (Wn (Qn (Wc rfl (fun h29 => ?_) (fun h29 => ?_))))
    ·replace H := of_t H h29
     refine Ws (Wg (Wr 1 tk sg0 rfl rfl tv ?_))
     obtain ⟨x30, hx30, H⟩ := of_bind H
     refine Wf [] (ref08_num_0 _ hx30) ref08_num_f rfl rfl tv rfl rfl rfl (Wr 3 tk sg0 rfl rfl tv (Wa 117 tk rfl rfl rfl (Wr 1 tk sg0 rfl rfl tv (We 0 tk ek eg0 rfl rfl rfl tv (Wn (Qn (Hp (.one 0 true (.one 1 true (.one 2 true (.one 3 false (.one 4 false .done))))) [103, 106, 110, 111, 115, 117] [103, 106, 115, 117] rfl (by kernel_rfl) rfl (by kernel_rfl) rfl rfl (fun _ h => h) rfl rfl rfl (fun _ _ _ h => h) fun FK NK wK K => (Hr 3 tk rfl rfl rfl rfl tv (He 0 tk ek rfl rfl rfl rfl tv rfl rfl (He 0 tk ek rfl rfl rfl rfl tv rfl rfl (WH.nil rfl (Qn (Ws (Ws (Wg (Wr 3 tk sg0 rfl rfl tv (Wn (Qn (Wc rfl (fun h31 => ?_) (fun h31 => ?_))))))))))))))))))))
     ·replace H := of_t H h31
      refine Ws (Hp (.one 0 true (.one 1 true (.one 2 true (.one 3 true (.one 4 false (.one 5 true .done)))))) [103, 106, 110, 111, 115, 117] [106, 110, 111, 115, 117] rfl (by kernel_rfl) rfl (by kernel_rfl) rfl rfl (fun _ h => h) rfl rfl rfl (fun _ _ _ h => h) fun FK NK wK K => (Hr 4 tk rfl rfl rfl rfl tv (He 0 tk ek rfl rfl rfl rfl tv rfl rfl (Hr 1 tk rfl rfl rfl rfl tv (WH.nil rfl (Qn (WC.nilT 2 enc_api_Decl rfl (Wt (QT.r (QB.r (QT.r (QT.r (QB.r (QT.r ?_))))))))))))))
      cases H
      exact Ends.autoC tk rfl rfl rfl tv
     replace H := of_f H h31
     refine Wk (Qn (Hp (.one 0 true (.one 1 true (.one 4 true (.one 2 false (.one 3 false (.one 5 true (.one 6 false .done))))))) [103, 106, 110, 111, 115, 117] [103, 110, 111, 115, 117] rfl (by kernel_rfl) rfl (by kernel_rfl) rfl rfl (fun _ h => h) rfl rfl rfl (fun _ _ _ h => h) fun FK NK wK K => (WH.mv rfl rfl rfl rfl rfl rfl rfl rfl rfl (Hr 2 tk rfl rfl rfl rfl tv (He 205 tk ek rfl rfl rfl rfl tv rfl rfl (WH.freezeT 205 enc_api_Decl ([(⟨x9.1, x28.1, x30.1⟩ : T_api_Decl)] : List T_api_Decl) rfl rfl rfl rfl ?_))))))
     obtain ⟨g32, H⟩ := of_need H
     refine WH.appT enc_api_Decl s4.2.2.2.2 ([(⟨x9.1, x28.1, x30.1⟩ : T_api_Decl)] : List T_api_Decl) tk ek rfl rfl (fun _ => rfl) (fun _ => rfl) rfl rfl rfl rfl rfl (nCap_ok g32) rfl rfl rfl rfl rfl rfl rfl ?_
     refine WH.mv rfl rfl rfl rfl rfl rfl rfl rfl rfl (He 0 tk ek rfl rfl rfl rfl tv rfl rfl (WH.nil rfl (Qb (Qn ?_))))
     exact ⟨(x30.2.S, x30.2.At, x30.2.Err, s4.2.2.2.2 ++ ([(⟨x9.1, x28.1, x30.1⟩ : T_api_Decl)] : List T_api_Decl)), H, LessW.mk' ⟨Ao rfl, Ao rfl, Ao rfl, Ao rfl, Ao rfl, tv⟩ ⟨rfl, rfl, rfl, tv⟩⟩
    replace H := of_f H h29
    refine Wk (Qn (Ws (Ws (Wg (Wr 3 tk sg0 rfl rfl tv (Wn (Qn (Wc rfl (fun h33 => ?_) (fun h33 => ?_)))))))))
    ·replace H := of_t H h33
     refine Ws (Hp (.one 0 true (.one 1 true (.one 2 true (.one 3 true (.one 4 false (.one 5 true .done)))))) [103, 106, 110, 111, 115] [106, 110, 111, 115] rfl (by kernel_rfl) rfl (by kernel_rfl) rfl rfl (fun _ h => h) rfl rfl rfl (fun _ _ _ h => h) fun FK NK wK K => (Hr 4 tk rfl rfl rfl rfl tv (He 0 tk ek rfl rfl rfl rfl tv rfl rfl (Hr 1 tk rfl rfl rfl rfl tv (WH.nil rfl (Qn (WC.nilT 2 enc_api_Decl rfl (Wt (QT.r (QB.r (QT.r (QT.r (QB.r (QT.r ?_))))))))))))))
     cases H
     exact Ends.autoC tk rfl rfl rfl tv
    replace H := of_f H h33
    refine Wk (Qn (Hp (.one 0 true (.one 1 true (.one 4 true (.one 2 false (.one 3 false (.one 5 true (.one 6 false .done))))))) [103, 106, 110, 111, 115] [103, 110, 111, 115] rfl (by kernel_rfl) rfl (by kernel_rfl) rfl rfl (fun _ h => h) rfl rfl rfl (fun _ _ _ h => h) fun FK NK wK K => (WH.mv rfl rfl rfl rfl rfl rfl rfl rfl rfl (Hr 2 tk rfl rfl rfl rfl tv (He 205 tk ek rfl rfl rfl rfl tv rfl rfl (WH.freezeT 205 enc_api_Decl ([(⟨x9.1, x28.1, 0⟩ : T_api_Decl)] : List T_api_Decl) rfl rfl rfl rfl ?_))))))
    obtain ⟨g34, H⟩ := of_need H
    refine WH.appT enc_api_Decl s4.2.2.2.2 ([(⟨x9.1, x28.1, 0⟩ : T_api_Decl)] : List T_api_Decl) tk ek rfl rfl (fun _ => rfl) (fun _ => rfl) rfl rfl rfl rfl rfl (nCap_ok g34) rfl rfl rfl rfl rfl rfl rfl ?_
    refine WH.mv rfl rfl rfl rfl rfl rfl rfl rfl rfl (He 0 tk ek rfl rfl rfl rfl tv rfl rfl (WH.nil rfl (Qb (Qn ?_))))
    exact ⟨(x28.2.S, x28.2.At, x28.2.Err, s4.2.2.2.2 ++ ([(⟨x9.1, x28.1, 0⟩ : T_api_Decl)] : List T_api_Decl)), H, LessW.mk' ⟨Ao rfl, Ao rfl, Ao rfl, Ao rfl, Ao rfl, tv⟩ ⟨rfl, rfl, rfl, tv⟩⟩
   replace H := of_f H h27
   refine Wk (Qn (Ws (Ws (Wg (Wr 3 tk sg0 rfl rfl tv (Wx 2 2 false tk sg0 rfl rfl (fun _ => tv) (Wr 1 tk sg0 rfl rfl ⟨by first | exact id | exact fun h => by rw [h]; rfl | simp_all, tv⟩ (Wn (Qn (Wc rfl (fun h35 => ?_) (fun h35 => ?_)))))))))))
   ·replace H := of_t H h35
    refine Ws (Wg (Wr 1 tk sg0 rfl rfl tv ?_))
    obtain ⟨x36, hx36, H⟩ := of_bind H
    refine Wf [] (ref08_num_0 _ hx36) ref08_num_f rfl rfl tv rfl rfl rfl (Wr 3 tk sg0 rfl rfl tv (Wa 117 tk rfl rfl rfl (Wr 1 tk sg0 rfl rfl tv (We 0 tk ek eg0 rfl rfl rfl tv (Wn (Qn (Hp (.one 0 true (.one 1 true (.one 2 true (.one 3 false (.one 4 false .done))))) [103, 106, 110, 111, 117] [103, 106, 117] rfl (by kernel_rfl) rfl (by kernel_rfl) rfl rfl (fun _ h => h) rfl rfl rfl (fun _ _ _ h => h) fun FK NK wK K => (Hr 3 tk rfl rfl rfl rfl tv (He 0 tk ek rfl rfl rfl rfl tv rfl rfl (He 0 tk ek rfl rfl rfl rfl tv rfl rfl (WH.nil rfl (Qn (Ws (Ws (Wg (Wr 3 tk sg0 rfl rfl tv (Wn (Qn (Wc rfl (fun h37 => ?_) (fun h37 => ?_))))))))))))))))))))
    ·replace H := of_t H h37
     refine Ws (Hp (.one 0 true (.one 1 true (.one 2 true (.one 3 true (.one 4 false (.one 5 true .done)))))) [103, 106, 110, 111, 117] [106, 110, 111, 117] rfl (by kernel_rfl) rfl (by kernel_rfl) rfl rfl (fun _ h => h) rfl rfl rfl (fun _ _ _ h => h) fun FK NK wK K => (Hr 4 tk rfl rfl rfl rfl tv (He 0 tk ek rfl rfl rfl rfl tv rfl rfl (Hr 1 tk rfl rfl rfl rfl tv (WH.nil rfl (Qn (WC.nilT 2 enc_api_Decl rfl (Wt (QT.r (QB.r (QT.r (QT.r (QB.r (QT.r ?_))))))))))))))
     cases H
     exact Ends.autoC tk rfl rfl rfl tv
    replace H := of_f H h37
    refine Wk (Qn (Hp (.one 0 true (.one 1 true (.one 4 true (.one 2 false (.one 3 false (.one 5 true (.one 6 false .done))))))) [103, 106, 110, 111, 117] [103, 110, 111, 117] rfl (by kernel_rfl) rfl (by kernel_rfl) rfl rfl (fun _ h => h) rfl rfl rfl (fun _ _ _ h => h) fun FK NK wK K => (WH.mv rfl rfl rfl rfl rfl rfl rfl rfl rfl (Hr 2 tk rfl rfl rfl rfl tv (He 205 tk ek rfl rfl rfl rfl tv rfl rfl (WH.freezeT 205 enc_api_Decl ([(⟨x9.1, 0, x36.1⟩ : T_api_Decl)] : List T_api_Decl) rfl rfl rfl rfl ?_))))))
    obtain ⟨g38, H⟩ := of_need H
    refine WH.appT enc_api_Decl s4.2.2.2.2 ([(⟨x9.1, 0, x36.1⟩ : T_api_Decl)] : List T_api_Decl) tk ek rfl rfl (fun _ => rfl) (fun _ => rfl) rfl rfl rfl rfl rfl (nCap_ok g38) rfl rfl rfl rfl rfl rfl rfl ?_
    refine WH.mv rfl rfl rfl rfl rfl rfl rfl rfl rfl (He 0 tk ek rfl rfl rfl rfl tv rfl rfl (WH.nil rfl (Qb (Qn ?_))))
    exact ⟨(x36.2.S, x36.2.At, x36.2.Err, s4.2.2.2.2 ++ ([(⟨x9.1, 0, x36.1⟩ : T_api_Decl)] : List T_api_Decl)), H, LessW.mk' ⟨Ao rfl, Ao rfl, Ao rfl, Ao rfl, Ao rfl, tv⟩ ⟨rfl, rfl, rfl, tv⟩⟩
   replace H := of_f H h35
   refine Wk (Qn (Ws (Ws (Wg (Wr 3 tk sg0 rfl rfl tv (Wn (Qn (Wc rfl (fun h39 => ?_) (fun h39 => ?_)))))))))
   ·replace H := of_t H h39
    refine Ws (Hp (.one 0 true (.one 1 true (.one 2 true (.one 3 true (.one 4 false (.one 5 true .done)))))) [103, 106, 110, 111] [106, 110, 111] rfl (by kernel_rfl) rfl (by kernel_rfl) rfl rfl (fun _ h => h) rfl rfl rfl (fun _ _ _ h => h) fun FK NK wK K => (Hr 4 tk rfl rfl rfl rfl tv (He 0 tk ek rfl rfl rfl rfl tv rfl rfl (Hr 1 tk rfl rfl rfl rfl tv (WH.nil rfl (Qn (WC.nilT 2 enc_api_Decl rfl (Wt (QT.r (QB.r (QT.r (QT.r (QB.r (QT.r ?_))))))))))))))
    cases H
    exact Ends.autoC tk rfl rfl rfl tv
   replace H := of_f H h39
   refine Wk (Qn (Hp (.one 0 true (.one 1 true (.one 4 true (.one 2 false (.one 3 false (.one 5 true (.one 6 false .done))))))) [103, 106, 110, 111] [103, 110, 111] rfl (by kernel_rfl) rfl (by kernel_rfl) rfl rfl (fun _ h => h) rfl rfl rfl (fun _ _ _ h => h) fun FK NK wK K => (WH.mv rfl rfl rfl rfl rfl rfl rfl rfl rfl (Hr 2 tk rfl rfl rfl rfl tv (He 205 tk ek rfl rfl rfl rfl tv rfl rfl (WH.freezeT 205 enc_api_Decl ([(⟨x9.1, 0, 0⟩ : T_api_Decl)] : List T_api_Decl) rfl rfl rfl rfl ?_))))))
   obtain ⟨g40, H⟩ := of_need H
   refine WH.appT enc_api_Decl s4.2.2.2.2 ([(⟨x9.1, 0, 0⟩ : T_api_Decl)] : List T_api_Decl) tk ek rfl rfl (fun _ => rfl) (fun _ => rfl) rfl rfl rfl rfl rfl (nCap_ok g40) rfl rfl rfl rfl rfl rfl rfl ?_
   refine WH.mv rfl rfl rfl rfl rfl rfl rfl rfl rfl (He 0 tk ek rfl rfl rfl rfl tv rfl rfl (WH.nil rfl (Qb (Qn ?_))))
   exact ⟨(x9.2.S, x9.2.At, x9.2.Err, s4.2.2.2.2 ++ ([(⟨x9.1, 0, 0⟩ : T_api_Decl)] : List T_api_Decl)), H, LessW.mk' ⟨Ao rfl, Ao rfl, Ao rfl, Ao rfl, Ao rfl, tv⟩ ⟨rfl, rfl, rfl, tv⟩⟩
  ·rintro E m ⟨s8, H, hl⟩
   refine WC.lessW hl ?_
   replace H := (hK7 _).symm.trans H
   try dsimp only at H
   exact Wg (Wr 3 tk sg0 rfl rfl tv (Wn (Qn (⟨⟨(k5, (IntKind.i64.wrap (s4.1 + 1), s8.1, s8.2.1, s8.2.2.1, s8.2.2.2)), H⟩, Nat.lt_succ_self _, Less.mk' ⟨rfl, rfl, rfl, rfl, rfl, tv⟩ ⟨rfl, rfl, rfl, tv⟩⟩))))
 replace H := of_f H h6
 refine WC.exit (Qx (Qx (Qh (Qn ?_))))
 refine Ws (Ws (Wg (Wr 1 tk sg0 rfl rfl tv (WL.freezeT 134 enc_api_Decl s4.2.2.2.2 rfl rfl rfl rfl ?_))))
 obtain ⟨x41, hx41, H⟩ := of_bind H
 refine Wf [] (ref08_Check_0 _ hx41) ref08_Check_f rfl rfl tv rfl rfl rfl (Wr 5 tk sg0 rfl rfl tv (Wn (Qn (Ws (Wg (Wr 2 tk sg0 rfl rfl tv (Wn (Qn (Wc rfl (fun h42 => ?_) (fun h42 => ?_))))))))))
 ·replace H := of_t H h42
  refine Ws (Hp (.one 0 true (.one 1 true (.one 2 true (.one 3 false (.one 4 true .done))))) [103, 106] [106] rfl (by kernel_rfl) rfl (by kernel_rfl) rfl rfl (fun _ h => h) rfl rfl rfl (fun _ _ _ h => h) fun FK NK wK K => (Hr 3 tk rfl rfl rfl rfl tv (He 0 tk ek rfl rfl rfl rfl tv rfl rfl (Hr 1 tk rfl rfl rfl rfl tv (WH.nil rfl (Qn (WC.nilT 2 enc_api_Decl rfl (Wt (QT.r ?_)))))))))
  cases H
  exact Ends.autoC tk rfl rfl rfl tv
 replace H := of_f H h42
 refine Wk (Qn (Ws (Hp (.one 0 true (.one 1 true (.one 2 true (.one 3 false (.one 4 true .done))))) [103, 106] [106] rfl (by kernel_rfl) rfl (by kernel_rfl) rfl rfl (fun _ h => h) rfl rfl rfl (fun _ _ _ h => h) fun FK NK wK K => (Hr 3 tk rfl rfl rfl rfl tv (He 0 tk ek rfl rfl rfl rfl tv rfl rfl (Hr 1 tk rfl rfl rfl rfl tv (WH.nil rfl (Qn (Wt ?_)))))))))
 cases H
 exact Ends.autoC tk rfl rfl rfl tv
theorem ref08_Read_f : hasFunc Tryd.prog 36 Tryd.f36 := ⟨Tryd.func36, rfl, by kernel_rfl⟩

theorem ref10_many_0 (a0 : T_ref01_R) (a1 : Int) {r : Int × T_ref01_R × Int} (H : ref10_many a0 a1 = some r) : LJ.Spec Tryd.prog 37 [.d (.agg [.str a0.S, .int .i64 a0.At, .int .i64 a0.Err]), .d (.int .u64 a1)] [] (.tup [.d (.int .i64 r.1), .d (.agg [.str r.2.1.S, .int .i64 r.2.1.At, .int .i64 r.2.1.Err]), .d (.int .i64 r.2.2)]) [] := by
 refine LJ.Spec.code Tryd.func37 rfl 23 rfl rfl [] rfl fun w0 F0 S0 B0 => ?_
 unfold ref10_many at H
 refine Ws (Wg (We 102 tk ek eg0 rfl rfl rfl tv (Wr 1 tk sg0 rfl rfl tv (Wa 105 tk rfl rfl rfl (Wr 1 tk sg0 rfl rfl tv (Wn (Qn (Ws (Wg (Wr 1 tk sg0 rfl rfl tv ?_))))))))))
 obtain ⟨x1, hx1, H⟩ := of_bind H
 refine Wf [] (ref01_Number_0 _ hx1) ref01_Number_f rfl rfl tv rfl rfl rfl (Wr 3 tk sg0 rfl rfl tv (Wa 108 tk rfl rfl rfl (Wr 1 tk sg0 rfl rfl tv (We 0 tk ek eg0 rfl rfl rfl tv (Wn (Qn (Ws (Ws (Wg (Wr 3 tk sg0 rfl rfl tv (Wn (Qn (Wc rfl (fun h2 => ?_) (fun h2 => ?_))))))))))))))
 ·replace H := of_t H h2
  refine Ws (Hp (.one 0 true (.one 1 true (.one 2 false (.one 3 true .done)))) [102, 105, 108] [102, 108] rfl (by kernel_rfl) rfl (by kernel_rfl) rfl rfl (fun _ h => h) rfl rfl rfl (fun _ _ _ h => h) fun FK NK wK K => (Hr 2 tk rfl rfl rfl rfl tv (He 0 tk ek rfl rfl rfl rfl tv rfl rfl (Hr 1 tk rfl rfl rfl rfl tv (WH.nil rfl (Qn (Wt (QT.r ?_))))))))
  cases H
  exact Ends.autoC tk rfl rfl rfl tv
 replace H := of_f H h2
 refine Wk (Qn (Ws (Hp (.one 0 true (.one 1 true (.one 2 true (.one 3 true (.one 4 true (.one 5 true (.one 6 false (.one 7 true .done)))))))) [102, 105, 108] [102, 108] rfl (by kernel_rfl) rfl (by kernel_rfl) rfl rfl (fun _ h => h) rfl rfl rfl (fun _ _ _ h => h) fun FK NK wK K => (Hr 6 tk rfl rfl rfl rfl tv (He 0 tk ek rfl rfl rfl rfl tv rfl rfl (Hr 1 tk rfl rfl rfl rfl tv (WH.nil rfl (Qn (Wt ?_)))))))))
 cases H
 exact Ends.autoC tk rfl rfl rfl tv
theorem ref10_many_f : hasFunc Tryd.prog 37 Tryd.f37 := ⟨Tryd.func37, rfl, by kernel_rfl⟩

theorem ref09_Read_0 (a0 : List T_api_Decl) (a1 : T_ref01_R) {r : (List (List T_api_Need)) × T_ref01_R × Int} (H : ref09_Read a0 a1 = some r) : LJ.Spec Tryd.prog 38 [.d (slT enc_api_Decl a0), .d (.agg [.str a1.S, .int .i64 a1.At, .int .i64 a1.Err])] [] (.tup [.d (slT enc_sl_api_Need r.1), .d (.agg [.str r.2.1.S, .int .i64 r.2.1.At, .int .i64 r.2.1.Err]), .d (.int .i64 r.2.2)]) [] := by
 refine LJ.Spec.code Tryd.func38 rfl 127 rfl rfl [] rfl fun w0 F0 S0 B0 => ?_
 unfold ref09_Read at H
 refine Ws (Wg (We 103 tk ek eg0 rfl rfl rfl tv (Wr 1 tk sg0 rfl rfl tv (Wa 105 tk rfl rfl rfl (Wr 1 tk sg0 rfl rfl tv (Wn (Qn (Ws (Wg (Wr 1 tk sg0 rfl rfl tv ?_))))))))))
 obtain ⟨x1, hx1, H⟩ := of_bind H
 refine Wf [] (ref01_Number_0 _ hx1) ref01_Number_f rfl rfl tv rfl rfl rfl (Wr 3 tk sg0 rfl rfl tv (Wa 108 tk rfl rfl rfl (Wr 1 tk sg0 rfl rfl tv (We 0 tk ek eg0 rfl rfl rfl tv (Wn (Qn (Ws (Ws (Wg (Wr 2 tk sg0 rfl rfl tv (Wn (Qn (Wc rfl (fun h2 => ?_) (fun h2 => ?_))))))))))))))
 ·replace H := of_t H h2
  refine Ws (Hp (.one 0 true (.one 1 true (.one 2 false (.one 3 true .done)))) [103, 105, 108] [103, 108] rfl (by kernel_rfl) rfl (by kernel_rfl) rfl rfl (fun _ h => h) rfl rfl rfl (fun _ _ _ h => h) fun FK NK wK K => (Hr 2 tk rfl rfl rfl rfl tv (He 0 tk ek rfl rfl rfl rfl tv rfl rfl (Hr 1 tk rfl rfl rfl rfl tv (WH.nil rfl (Qn (WC.nilT 4 enc_sl_api_Need rfl (Wt (QT.r ?_)))))))))
  cases H
  exact Ends.autoC tk rfl rfl rfl tv
 replace H := of_f H h2
 refine Wk (Qn (Ws (Wg (We 131 tk ek eg0 rfl rfl rfl tv (Wr 1 tk sg0 rfl rfl tv (Wn (Qn (Ws (Ws (Wg (Wr 1 tk sg0 rfl rfl tv (Wn (Qn (Wb (Wl (ι := {x : Nat × (Int × ByteArray × Int × Int × (List (List T_api_Need))) // ref09_Read_l4 a0 x1 x.1 x.2 = some r}) (fun x => [(0, .d (slT enc_api_Decl a0)), (5, .ptr 105 0), (7, .d (.int .u64 x1.1)), (8, .ptr 108 0), (9, .own 131), (10, .d (.int .i64 x.1.2.1))]) (fun x => [(105, .box 87 [.d (.str ByteArray.empty), .d (.int .i64 0), .d (.int .i64 0)]), (108, .box 87 [.d (.str x.1.2.2.1), .d (.int .i64 x.1.2.2.2.1), .d (.int .i64 x.1.2.2.2.2.1)]), (131, .row 97 1 (x.1.2.2.2.2.2.map enc_sl_api_Need))]) (fun x => x.1.1) ⟨(fuel, (0, x1.2.S, x1.2.At, x1.2.Err, ([] : List (List T_api_Need)))), H⟩ (Less.mk' ⟨rfl, rfl, rfl, rfl, rfl, rfl, tv⟩ ⟨rfl, rfl, rfl, tv⟩) fun x => ?_)))))))))))))))
 obtain ⟨⟨k4, s3⟩, H⟩ := x
 rcases k4 with _ | k4
 ·exact of_none H
 rw [ref09_Read_l4] at H
 refine Ws (Ws (Wg (Wr 5 tk sg0 rfl rfl tv (Wx 3 4 true tk sg0 rfl rfl (fun _ => tv) (Wr 1 tk sg0 rfl rfl ⟨by first | exact id | exact fun h => by rw [h]; rfl | simp_all, tv⟩ (Wn (Qn (Wc rfl (fun h5 => ?_) (fun h5 => ?_)))))))))
 ·replace H := of_t H h5
  refine Wk (Qn ?_)
  obtain ⟨K6, hK6, H⟩ := of_withK H
  refine WC.cut (fun E m => ∃ s7 : ByteArray × Int × Int × (List (List T_api_Need)), K6 s7 = some r ∧ LessW E m [(0, .d (slT enc_api_Decl a0)), (5, .ptr 105 0), (7, .d (.int .u64 x1.1)), (8, .ptr 108 0), (9, .own 131), (10, .d (.int .i64 s3.1))] [(105, .box 87 [.d (.str ByteArray.empty), .d (.int .i64 0), .d (.int .i64 0)]), (108, .box 87 [.d (.str s7.1), .d (.int .i64 s7.2.1), .d (.int .i64 s7.2.2.1)]), (131, .row 97 1 (s7.2.2.2.map enc_sl_api_Need))]) ?_ ?_
  ·refine Wb (Ws (Wg (Wr 1 tk sg0 rfl rfl tv ?_)))
   obtain ⟨x8, hx8, H⟩ := of_bind H
   refine Wf [] (ref01_Number_0 _ hx8) ref01_Number_f rfl rfl tv rfl rfl rfl (Wr 3 tk sg0 rfl rfl tv (Wa 112 tk rfl rfl rfl (Wr 1 tk sg0 rfl rfl tv (We 0 tk ek eg0 rfl rfl rfl tv (Wn (Qn (Ws (Ws (Wg (Wr 2 tk sg0 rfl rfl tv (Wn (Qn (Wc rfl (fun h9 => ?_) (fun h9 => ?_))))))))))))))
   ·replace H := of_t H h9
    refine Ws (Hp (.one 0 true (.one 1 true (.one 2 false (.one 3 true .done)))) [105, 108, 112] [108, 112] rfl (by kernel_rfl) rfl (by kernel_rfl) rfl rfl (fun _ h => h) rfl rfl rfl (fun _ _ _ h => h) fun FK NK wK K => (Hr 2 tk rfl rfl rfl rfl tv (He 0 tk ek rfl rfl rfl rfl tv rfl rfl (Hr 1 tk rfl rfl rfl rfl tv (WH.nil rfl (Qn (WC.nilT 4 enc_sl_api_Need rfl (Wt (QT.r (QB.r (QT.r (QT.r (QB.r (QT.r ?_))))))))))))))
    cases H
    exact Ends.autoC tk rfl rfl rfl tv
   replace H := of_f H h9
   refine Wk (Qn (Ws (Wg (We 151 tk ek eg0 rfl rfl rfl tv (Wr 1 tk sg0 rfl rfl tv (Wn (Qn (Ws (Ws (Wg (Wr 1 tk sg0 rfl rfl tv (Wn (Qn (Wb (Wl (ι := {x : Nat × (Int × ByteArray × Int × Int × (List T_api_Need)) // ref09_Read_l11 s3 K6 x8 x.1 x.2 = some r}) (fun x => [(0, .d (slT enc_api_Decl a0)), (5, .ptr 105 0), (7, .d (.int .u64 x1.1)), (8, .ptr 108 0), (9, .own 131), (10, .d (.int .i64 s3.1)), (11, .d (.int .u64 x8.1)), (12, .ptr 112 0), (13, .own 151), (14, .d (.int .i64 x.1.2.1))]) (fun x => [(105, .box 87 [.d (.str ByteArray.empty), .d (.int .i64 0), .d (.int .i64 0)]), (108, .box 87 [.d (.str s3.2.1), .d (.int .i64 s3.2.2.1), .d (.int .i64 s3.2.2.2.1)]), (112, .box 87 [.d (.str x.1.2.2.1), .d (.int .i64 x.1.2.2.2.1), .d (.int .i64 x.1.2.2.2.2.1)]), (131, .row 97 1 (s3.2.2.2.2.map enc_sl_api_Need)), (151, .row 101 3 (x.1.2.2.2.2.2.map enc_api_Need))]) (fun x => x.1.1) ⟨(fuel, (0, x8.2.S, x8.2.At, x8.2.Err, ([] : List T_api_Need))), H⟩ (Less.mk' ⟨rfl, rfl, rfl, rfl, rfl, rfl, rfl, rfl, rfl, rfl, tv⟩ ⟨rfl, rfl, rfl, rfl, rfl, tv⟩) fun x => ?_)))))))))))))))
   obtain ⟨⟨k11, s10⟩, H⟩ := x
   rcases k11 with _ | k11
   ·exact of_none H
   rw [ref09_Read_l11] at H
   refine Ws (Ws (Wg (Wr 5 tk sg0 rfl rfl tv (Wx 3 4 true tk sg0 rfl rfl (fun _ => tv) (Wr 1 tk sg0 rfl rfl ⟨by first | exact id | exact fun h => by rw [h]; rfl | simp_all, tv⟩ (Wn (Qn (Wc rfl (fun h12 => ?_) (fun h12 => ?_)))))))))
   ·replace H := of_t H h12
    refine Wk (Qn (Ws (Wb (Ws (Wg (Wr 1 tk sg0 rfl rfl tv ?_))))))
    obtain ⟨x13, hx13, H⟩ := of_bind H
    refine Wf [] (ref01_Byte_0 _ hx13) ref01_Byte_f rfl rfl tv rfl rfl rfl (Wr 3 tk sg0 rfl rfl tv (Wa 116 tk rfl rfl rfl (Wr 1 tk sg0 rfl rfl tv (We 0 tk ek eg0 rfl rfl rfl tv (Wn (Qn (Ws (Ws (Wg (Wr 4 tk sg0 rfl rfl tv (Wx 3 3 true tk sg0 rfl rfl (fun _ => tv) (Wx 2 6 false tk sg0 rfl rfl (fun _ => tv) (Wx 1 3 true tk sg0 rfl rfl (fun hb => ⟨by first | exact id | exact ⟨hb, fun h => by rw [hb, h]; rfl⟩ | exact ⟨hb, id⟩ | exact fun h => by rw [hb, h]; rfl | exact fun h => by rw [h]; rfl | simp_all, tv⟩) (Wr 1 tk sg0 rfl rfl ⟨by first | exact id | exact fun h => by rw [h]; rfl | simp_all, tv⟩ ?_))))))))))))))
    refine Wn (Qn (Wc rfl (fun h14 => ?_) (fun h14 => ?_)))
    ·replace H := of_t H h14
     refine Ws (Hp (.one 0 true (.one 1 true (.one 2 false (.one 3 true .done)))) [105, 108, 112, 116] [108, 112, 116] rfl (by kernel_rfl) rfl (by kernel_rfl) rfl rfl (fun _ h => h) rfl rfl rfl (fun _ _ _ h => h) fun FK NK wK K => (Hr 2 tk rfl rfl rfl rfl tv (He 0 tk ek rfl rfl rfl rfl tv rfl rfl (Hr 1 tk rfl rfl rfl rfl tv (WH.nil rfl (Qn (WC.nilT 4 enc_sl_api_Need rfl (Wt (QT.r (QB.r (QT.r (QT.r (QB.r (QT.r (QB.r (QT.r (QT.r (QB.r (QT.r ?_)))))))))))))))))))
     cases H
     exact Ends.autoC tk rfl rfl rfl tv
    replace H := of_f H h14
    refine Wk (Qn (Ws (Wg (Wr 1 tk sg0 rfl rfl tv ?_))))
    obtain ⟨x15, hx15, H⟩ := of_bind H
    refine Wf [] (ref01_Number_0 _ hx15) ref01_Number_f rfl rfl tv rfl rfl rfl (Wr 3 tk sg0 rfl rfl tv (Wa 118 tk rfl rfl rfl (Wr 1 tk sg0 rfl rfl tv (We 0 tk ek eg0 rfl rfl rfl tv (Wn (Qn (Ws (Wg (Wr 2 tk sg0 rfl rfl tv (WL.yv (LJ.Y.min rfl rfl rfl) rfl rfl rfl (Wr 2 tk sg0 rfl rfl tv (Wa 119 tk rfl rfl rfl (We 0 tk ek eg0 rfl rfl rfl tv (Wn (Qn (Ws (Ws (Wg (Wr 2 tk sg0 rfl rfl tv (Wn (Qn (Wc rfl (fun h16 => ?_) (fun h16 => ?_)))))))))))))))))))))))
    ·replace H := of_t H h16
     refine Ws (Wg (Wr 1 tk sg0 rfl rfl tv ?_))
     obtain ⟨x17, hx17, H⟩ := of_bind H
     refine Wf [] (ref01_Number_0 _ hx17) ref01_Number_f rfl rfl tv rfl rfl rfl (Wr 3 tk sg0 rfl rfl tv (Wa 121 tk rfl rfl rfl (Wr 1 tk sg0 rfl rfl tv (We 0 tk ek eg0 rfl rfl rfl tv (Wn (Qn (Hp (.one 0 true (.one 1 true (.one 2 true (.one 3 true (.one 4 true (.one 5 false (.one 6 false .done))))))) [105, 108, 112, 116, 118, 119, 121] [105, 108, 112, 116, 121] rfl (by kernel_rfl) rfl (by kernel_rfl) rfl rfl (fun _ h => h) rfl rfl rfl (fun _ _ _ h => h) fun FK NK wK K => (Hr 1 tk rfl rfl rfl rfl tv (WH.yv rfl (LJ.Y.min rfl rfl rfl) rfl rfl rfl (Hr 3 tk rfl rfl rfl rfl tv (He 0 tk ek rfl rfl rfl rfl tv rfl rfl (He 0 tk ek rfl rfl rfl rfl tv rfl rfl (WH.nil rfl (Qn (Hp (.one 0 true (.one 1 true (.one 4 true (.one 2 false (.one 3 false (.one 5 true (.one 6 false .done))))))) [105, 108, 112, 116, 118, 119, 121] [105, 108, 116, 118, 119, 121] rfl (by kernel_rfl) rfl (by kernel_rfl) rfl rfl (fun _ h => h) rfl rfl rfl (fun _ _ _ h => h) fun FK NK wK K => (WH.mv rfl rfl rfl rfl rfl rfl rfl rfl rfl (Hr 2 tk rfl rfl rfl rfl tv ?_)))))))))))))))))
     refine He 204 tk ek rfl rfl rfl rfl tv rfl rfl (WH.freezeT 204 enc_api_Need ([(⟨x13.1, IntKind.i64.wrap (iMin x15.1 (2147483648 : Int)), IntKind.i64.wrap (iMin x17.1 (2147483648 : Int))⟩ : T_api_Need)] : List T_api_Need) rfl rfl rfl rfl ?_)
     obtain ⟨g18, H⟩ := of_need H
     refine WH.appT enc_api_Need s10.2.2.2.2 ([(⟨x13.1, IntKind.i64.wrap (iMin x15.1 (2147483648 : Int)), IntKind.i64.wrap (iMin x17.1 (2147483648 : Int))⟩ : T_api_Need)] : List T_api_Need) tk ek rfl rfl (fun _ => rfl) (fun _ => rfl) rfl rfl rfl rfl rfl (nCap_ok g18) rfl rfl rfl rfl rfl rfl rfl ?_
     refine WH.mv rfl rfl rfl rfl rfl rfl rfl rfl rfl (He 0 tk ek rfl rfl rfl rfl tv rfl rfl (WH.nil rfl (Qb (Qn ?_))))
     exact Wg (Wr 3 tk sg0 rfl rfl tv (Wn (Qn (⟨⟨(k11, (IntKind.i64.wrap (s10.1 + 1), x17.2.S, x17.2.At, x17.2.Err, s10.2.2.2.2 ++ ([(⟨x13.1, IntKind.i64.wrap (iMin x15.1 (2147483648 : Int)), IntKind.i64.wrap (iMin x17.1 (2147483648 : Int))⟩ : T_api_Need)] : List T_api_Need))), H⟩, Nat.lt_succ_self _, Less.mk' ⟨rfl, rfl, rfl, rfl, rfl, rfl, rfl, rfl, rfl, rfl, tv⟩ ⟨rfl, rfl, rfl, rfl, rfl, tv⟩⟩))))
    replace H := of_f H h16
    refine Wk (Qn (Hp (.one 0 true (.one 1 true (.one 4 true (.one 2 false (.one 3 false (.one 5 true (.one 6 false .done))))))) [105, 108, 112, 116, 118, 119] [105, 108, 116, 118, 119] rfl (by kernel_rfl) rfl (by kernel_rfl) rfl rfl (fun _ h => h) rfl rfl rfl (fun _ _ _ h => h) fun FK NK wK K => (WH.mv rfl rfl rfl rfl rfl rfl rfl rfl rfl (Hr 2 tk rfl rfl rfl rfl tv (He 204 tk ek rfl rfl rfl rfl tv rfl rfl (WH.freezeT 204 enc_api_Need ([(⟨x13.1, IntKind.i64.wrap (iMin x15.1 (2147483648 : Int)), 0⟩ : T_api_Need)] : List T_api_Need) rfl rfl rfl rfl ?_))))))
    obtain ⟨g19, H⟩ := of_need H
    refine WH.appT enc_api_Need s10.2.2.2.2 ([(⟨x13.1, IntKind.i64.wrap (iMin x15.1 (2147483648 : Int)), 0⟩ : T_api_Need)] : List T_api_Need) tk ek rfl rfl (fun _ => rfl) (fun _ => rfl) rfl rfl rfl rfl rfl (nCap_ok g19) rfl rfl rfl rfl rfl rfl rfl ?_
    refine WH.mv rfl rfl rfl rfl rfl rfl rfl rfl rfl (He 0 tk ek rfl rfl rfl rfl tv rfl rfl (WH.nil rfl (Qb (Qn ?_))))
    exact Wg (Wr 3 tk sg0 rfl rfl tv (Wn (Qn (⟨⟨(k11, (IntKind.i64.wrap (s10.1 + 1), x15.2.S, x15.2.At, x15.2.Err, s10.2.2.2.2 ++ ([(⟨x13.1, IntKind.i64.wrap (iMin x15.1 (2147483648 : Int)), 0⟩ : T_api_Need)] : List T_api_Need))), H⟩, Nat.lt_succ_self _, Less.mk' ⟨rfl, rfl, rfl, rfl, rfl, rfl, rfl, rfl, rfl, rfl, tv⟩ ⟨rfl, rfl, rfl, rfl, rfl, tv⟩⟩))))
   replace H := of_f H h12
   refine WC.exit (Qx (Qx (Qh (Qn ?_))))
   refine Hp (.one 0 true (.one 1 true (.one 4 true (.one 2 false (.one 3 false (.one 5 true (.one 6 false .done))))))) [105, 108, 112] [105, 112] rfl (by kernel_rfl) rfl (by kernel_rfl) rfl rfl (fun _ h => h) rfl rfl rfl (fun _ _ _ h => h) fun FK NK wK K => (WH.mv rfl rfl rfl rfl rfl rfl rfl rfl rfl (WH.mv rfl rfl rfl rfl rfl rfl rfl rfl rfl (Hr 1 tk rfl rfl rfl rfl tv (WH.freezeT 151 enc_api_Need s10.2.2.2.2 rfl rfl rfl rfl (He 209 tk ek rfl rfl rfl rfl tv rfl rfl (WH.freezeT 209 enc_sl_api_Need ([s10.2.2.2.2] : List (List T_api_Need)) rfl rfl rfl rfl ?_))))))
   obtain ⟨g20, H⟩ := of_need H
   refine WH.appT enc_sl_api_Need s3.2.2.2.2 ([s10.2.2.2.2] : List (List T_api_Need)) tk ek rfl rfl (fun _ => rfl) (fun _ => rfl) rfl rfl rfl rfl rfl (nCap_ok g20) rfl rfl rfl rfl rfl rfl rfl ?_
   refine WH.mv rfl rfl rfl rfl rfl rfl rfl rfl rfl (He 0 tk ek rfl rfl rfl rfl tv rfl rfl (WH.nil rfl (Qb (Qn ?_))))
   exact ⟨(s10.2.1, s10.2.2.1, s10.2.2.2.1, s3.2.2.2.2 ++ ([s10.2.2.2.2] : List (List T_api_Need))), H, LessW.mk' ⟨Ao rfl, Ao rfl, Ao rfl, Ao rfl, Ao rfl, Ao rfl, tv⟩ ⟨rfl, rfl, rfl, tv⟩⟩
  ·rintro E m ⟨s7, H, hl⟩
   refine WC.lessW hl ?_
   replace H := (hK6 _).symm.trans H
   try dsimp only at H
   exact Wg (Wr 3 tk sg0 rfl rfl tv (Wn (Qn (⟨⟨(k4, (IntKind.i64.wrap (s3.1 + 1), s7.1, s7.2.1, s7.2.2.1, s7.2.2.2)), H⟩, Nat.lt_succ_self _, Less.mk' ⟨rfl, rfl, rfl, rfl, rfl, rfl, tv⟩ ⟨rfl, rfl, rfl, tv⟩⟩))))
 replace H := of_f H h5
 refine WC.exit (Qx (Qx (Qh (Qn ?_))))
 refine Ws (Ws (Wg (Wr 3 tk sg0 rfl rfl tv (Wn (Qn (Wc rfl (fun h21 => ?_) (fun h21 => ?_)))))))
 ·replace H := of_t H h21
  refine Ws (Hp (.one 0 true (.one 1 true (.one 2 true (.one 3 true (.one 4 false (.one 5 true .done)))))) [105, 108] [108] rfl (by kernel_rfl) rfl (by kernel_rfl) rfl rfl (fun _ h => h) rfl rfl rfl (fun _ _ _ h => h) fun FK NK wK K => (Hr 4 tk rfl rfl rfl rfl tv (He 0 tk ek rfl rfl rfl rfl tv rfl rfl (Hr 1 tk rfl rfl rfl rfl tv (WH.nil rfl (Qn (WC.nilT 4 enc_sl_api_Need rfl (Wt (QT.r ?_)))))))))
  cases H
  exact Ends.autoC tk rfl rfl rfl tv
 replace H := of_f H h21
 refine Wk (Qn (Ws (Ws (Wg (Wr 2 tk sg0 rfl rfl tv (WL.freezeT 131 enc_sl_api_Need s3.2.2.2.2 rfl rfl rfl rfl ?_))))))
 obtain ⟨x22, hx22, H⟩ := of_bind H
 refine Wf [] (ref09_Check_0 _ _ hx22) ref09_Check_f rfl rfl tv rfl rfl rfl (Wr 1 tk sg0 rfl rfl tv (Wn (Qn (Ws (Wg (Wr 2 tk sg0 rfl rfl tv (Wn (Qn (Wc rfl (fun h23 => ?_) (fun h23 => ?_))))))))))
 ·replace H := of_t H h23
  refine Ws (Hp (.one 0 true (.one 1 true (.one 2 true (.one 3 false (.one 4 true .done))))) [105, 108] [108] rfl (by kernel_rfl) rfl (by kernel_rfl) rfl rfl (fun _ h => h) rfl rfl rfl (fun _ _ _ h => h) fun FK NK wK K => (Hr 3 tk rfl rfl rfl rfl tv (He 0 tk ek rfl rfl rfl rfl tv rfl rfl (Hr 1 tk rfl rfl rfl rfl tv (WH.nil rfl (Qn (WC.nilT 4 enc_sl_api_Need rfl (Wt (QT.r ?_)))))))))
  cases H
  exact Ends.autoC tk rfl rfl rfl tv
 replace H := of_f H h23
 refine Wk (Qn (Ws (Hp (.one 0 true (.one 1 true (.one 2 true (.one 3 false (.one 4 true .done))))) [105, 108] [108] rfl (by kernel_rfl) rfl (by kernel_rfl) rfl rfl (fun _ h => h) rfl rfl rfl (fun _ _ _ h => h) fun FK NK wK K => (Hr 3 tk rfl rfl rfl rfl tv (He 0 tk ek rfl rfl rfl rfl tv rfl rfl (Hr 1 tk rfl rfl rfl rfl tv (WH.nil rfl (Qn (Wt ?_)))))))))
 cases H
 exact Ends.autoC tk rfl rfl rfl tv
theorem ref09_Read_f : hasFunc Tryd.prog 38 Tryd.f38 := ⟨Tryd.func38, rfl, by kernel_rfl⟩

theorem ref07_Read_0 (a0 : T_ref01_R) {r : T_api_Ins × T_ref01_R × Int} (H : ref07_Read a0 = some r) : LJ.Spec Tryd.prog 66 [.d (.agg [.str a0.S, .int .i64 a0.At, .int .i64 a0.Err])] [] (.tup [.d (.agg [.int .i64 r.1.Op, .int .i64 r.1.A, .int .i64 r.1.B]), .d (.agg [.str r.2.1.S, .int .i64 r.2.1.At, .int .i64 r.2.1.Err]), .d (.int .i64 r.2.2)]) [] := by
 refine LJ.Spec.code Tryd.func66 rfl 92 rfl rfl [] rfl fun w0 F0 S0 B0 => ?_
 unfold ref07_Read at H
 refine Ws (Wg (We 101 tk ek eg0 rfl rfl rfl tv (Wa 102 tk rfl rfl rfl (Wa 103 tk rfl rfl rfl (Wr 1 tk sg0 rfl rfl tv (Wn (Qn (Ws (Wg (Wr 1 tk sg0 rfl rfl tv ?_))))))))))
 obtain ⟨x1, hx1, H⟩ := of_bind H
 refine Wf [] (ref01_Byte_0 _ hx1) ref01_Byte_f rfl rfl tv rfl rfl rfl (Wr 3 tk sg0 rfl rfl tv (Wa 106 tk rfl rfl rfl (Wr 1 tk sg0 rfl rfl tv (We 0 tk ek eg0 rfl rfl rfl tv (Wn (Qn (Ws (Ws (Wg (Wr 3 tk sg0 rfl rfl tv (Wn (Qn (Wc rfl (fun h2 => ?_) (fun h2 => ?_))))))))))))))
 ·replace H := of_t H h2
  refine Ws (Hp (.one 0 true (.one 1 true (.one 2 true (.one 3 true (.one 4 false (.one 5 false (.one 6 true .done))))))) [101, 102, 103, 106] [101, 106] rfl (by kernel_rfl) rfl (by kernel_rfl) rfl rfl (fun _ h => h) rfl rfl rfl (fun _ _ _ h => h) fun FK NK wK K => (Hr 4 tk rfl rfl rfl rfl tv (He 0 tk ek rfl rfl rfl rfl tv rfl rfl (He 0 tk ek rfl rfl rfl rfl tv rfl rfl (Hr 1 tk rfl rfl rfl rfl tv (WH.nil rfl (Qn (Wt (QT.r ?_)))))))))
  cases H
  exact Ends.autoC tk rfl rfl rfl tv
 replace H := of_f H h2
 refine Wk (Qn (Ws (Ws (Wg (Wr 1 tk sg0 rfl rfl tv ?_)))))
 obtain ⟨x3, hx3, H⟩ := of_bind H
 refine Wf [] (ref06_Known_0 _ hx3) ref06_Known_f rfl rfl tv rfl rfl rfl (Wr 1 tk sg0 rfl rfl tv (Wn (Qn (Wc rfl (fun h4 => ?_) (fun h4 => ?_)))))
 ·replace H := of_t H h4
  refine Ws (Hp (.one 0 true (.one 1 true (.one 2 false (.one 3 false (.one 4 true .done))))) [101, 102, 103, 106] [101, 106] rfl (by kernel_rfl) rfl (by kernel_rfl) rfl rfl (fun _ h => h) rfl rfl rfl (fun _ _ _ h => h) fun FK NK wK K => (Hr 2 tk rfl rfl rfl rfl tv (He 0 tk ek rfl rfl rfl rfl tv rfl rfl (He 0 tk ek rfl rfl rfl rfl tv rfl rfl (Hr 1 tk rfl rfl rfl rfl tv (WH.nil rfl (Qn (Wt (QT.r ?_)))))))))
  cases H
  exact Ends.autoC tk rfl rfl rfl tv
 replace H := of_f H h4
 refine Wk (Qn (Ws (Wg (Wr 1 tk sg0 rfl rfl tv ?_))))
 obtain ⟨x5, hx5, H⟩ := of_bind H
 refine Wf [] (ref06_Form_0 _ hx5) ref06_Form_f rfl rfl tv rfl rfl rfl (We 135 tk ek eg0 rfl rfl rfl tv (Wr 2 tk sg0 rfl rfl tv (Wn (Qn (Ws (Ws (Wg (Wr 1 tk sg0 rfl rfl tv (Wn (Qn (Wb (Wl (ι := {x : Nat × (Int × ByteArray × Int × Int × (List Int)) // ref07_Read_l7 x1 x5 x.1 x.2 = some r}) (fun x => [(2, .ptr 102 0), (3, .ptr 103 0), (5, .d (.int .i64 x1.1)), (6, .ptr 106 0), (7, .d (.str x5)), (8, .own 135), (9, .d (.int .i64 x.1.2.1))]) (fun x => [(102, .box 51 [.d (.int .i64 0), .d (.int .i64 0), .d (.int .i64 0)]), (103, .box 87 [.d (.str ByteArray.empty), .d (.int .i64 0), .d (.int .i64 0)]), (106, .box 87 [.d (.str x.1.2.2.1), .d (.int .i64 x.1.2.2.2.1), .d (.int .i64 x.1.2.2.2.2.1)]), (135, .row 3 1 (x.1.2.2.2.2.2.map enc_i64))]) (fun x => x.1.1) ⟨(fuel, (0, x1.2.S, x1.2.At, x1.2.Err, ([0, 0] : List Int))), H⟩ (Less.mk' ⟨rfl, rfl, rfl, rfl, rfl, rfl, rfl, tv⟩ ⟨rfl, rfl, rfl, rfl, tv⟩) fun x => ?_))))))))))))
 obtain ⟨⟨k7, s6⟩, H⟩ := x
 rcases k7 with _ | k7
 ·exact of_none H
 rw [ref07_Read_l7] at H
 refine Ws (Ws (Wg (Wr 4 tk sg0 rfl rfl tv (Wn (Qn (Wc rfl (fun h8 => ?_) (fun h8 => ?_)))))))
 ·replace H := of_t H h8
  refine Wk (Qn (Ws (Wb (Ws (Ws (Wg ?_))))))
  obtain ⟨g9, H⟩ := of_need H
  refine Wr 4 tk sg0 rfl rfl ⟨(nIn_ok g9), tv⟩ (Wn (Qn (Wc rfl (fun h10 => ?_) (fun h10 => ?_))))
  ·replace H := of_t H h10
   refine Ws (Wg (Wr 1 tk sg0 rfl rfl tv ?_))
   obtain ⟨x11, hx11, H⟩ := of_bind H
   refine Wf [] (ref01_Signed_0 _ hx11) ref01_Signed_f rfl rfl tv rfl rfl rfl (Wr 3 tk sg0 rfl rfl tv (Wa 111 tk rfl rfl rfl (Wr 1 tk sg0 rfl rfl tv (We 0 tk ek eg0 rfl rfl rfl tv (Wn (Qn (Hp (.one 0 true (.one 1 true (.one 2 true (.one 3 true (.one 4 false (.one 5 false (.one 6 false .done))))))) [102, 103, 106, 111] [102, 103, 111] rfl (by kernel_rfl) rfl (by kernel_rfl) rfl rfl (fun _ h => h) rfl rfl rfl (fun _ _ _ h => h) fun FK NK wK K => (WH.mv rfl rfl rfl rfl rfl rfl rfl rfl rfl (Hr 3 tk rfl rfl rfl rfl tv ?_)))))))))
   obtain ⟨g12, H⟩ := of_need H
   refine WH.yvs rfl (LJ.Y.idxRel enc_i64 s6.2.2.2.2 s6.1 tk rfl rfl rfl rfl rfl (nIn_ok g12)) rfl rfl rfl rfl rfl (WH.storeRel enc_i64 s6.2.2.2.2 s6.1 0 x11.1 (.int .i64 x11.1) rfl rfl rfl rfl rfl (fun _ => rfl) rfl (by kernel_rfl) rfl rfl (by first | exact nIn_ok g12 | (have := nIn_ok g12; simpa only [List.length_set, List.length_map] using this)) rfl rfl rfl rfl rfl rfl ?_)
   refine He 0 tk ek rfl rfl rfl rfl tv rfl rfl (WH.nil rfl (Qn (Ws (Wg (Wr 3 tk sg0 rfl rfl tv (Wn (Qn (Wc rfl (fun h13 => ?_) (fun h13 => ?_)))))))))
   ·replace H := of_t H h13
    refine Ws (Hp (.one 0 true (.one 1 true (.one 2 true (.one 3 true (.one 4 false (.one 5 false (.one 6 true .done))))))) [102, 103, 106, 111] [106, 111] rfl (by kernel_rfl) rfl (by kernel_rfl) rfl rfl (fun _ h => h) rfl rfl rfl (fun _ _ _ h => h) fun FK NK wK K => (Hr 4 tk rfl rfl rfl rfl tv (He 0 tk ek rfl rfl rfl rfl tv rfl rfl (He 0 tk ek rfl rfl rfl rfl tv rfl rfl (Hr 1 tk rfl rfl rfl rfl tv (WH.nil rfl (Qn (Wt (QB.r (QT.r (QT.r (QB.r (QT.r ?_)))))))))))))
    cases H
    exact Ends.autoC tk rfl rfl rfl tv
   replace H := of_f H h13
   refine Wk (Qb (Qn ?_))
   exact Wg (Wr 3 tk sg0 rfl rfl tv (Wn (Qn (⟨⟨(k7, (IntKind.i64.wrap (s6.1 + 1), x11.2.S, x11.2.At, x11.2.Err, s6.2.2.2.2.set s6.1.toNat x11.1)), H⟩, Nat.lt_succ_self _, Less.mk' ⟨rfl, rfl, rfl, rfl, rfl, rfl, rfl, tv⟩ ⟨rfl, rfl, rfl, rfl, tv⟩⟩))))
  replace H := of_f H h10
  refine Ws (Wg (Wr 1 tk sg0 rfl rfl tv ?_))
  obtain ⟨x14, hx14, H⟩ := of_bind H
  refine Wf [] (ref01_Number_0 _ hx14) ref01_Number_f rfl rfl tv rfl rfl rfl (Wr 3 tk sg0 rfl rfl tv (Wa 113 tk rfl rfl rfl (Wr 1 tk sg0 rfl rfl tv (We 0 tk ek eg0 rfl rfl rfl tv (Wn (Qn (Hp (.one 0 true (.one 1 true (.one 2 true (.one 3 true (.one 4 true (.one 5 true (.one 6 false (.one 7 false (.one 8 false .done))))))))) [102, 103, 106, 113] [102, 103, 113] rfl (by kernel_rfl) rfl (by kernel_rfl) rfl rfl (fun _ h => h) rfl rfl rfl (fun _ _ _ h => h) fun FK NK wK K => (WH.mv rfl rfl rfl rfl rfl rfl rfl rfl rfl (Hr 2 tk rfl rfl rfl rfl tv (WH.yv rfl (LJ.Y.min rfl rfl rfl) rfl rfl rfl (Hr 2 tk rfl rfl rfl rfl tv ?_)))))))))))
  obtain ⟨g15, H⟩ := of_need H
  refine WH.yvs rfl (LJ.Y.idxRel enc_i64 s6.2.2.2.2 s6.1 tk rfl rfl rfl rfl rfl (nIn_ok g15)) rfl rfl rfl rfl rfl (WH.storeRel enc_i64 s6.2.2.2.2 s6.1 0 (IntKind.i64.wrap (iMin x14.1 (2147483648 : Int))) (.int .i64 (IntKind.i64.wrap (iMin x14.1 (2147483648 : Int)))) rfl rfl rfl rfl rfl (fun _ => rfl) rfl (by kernel_rfl) rfl rfl (by first | exact nIn_ok g15 | (have := nIn_ok g15; simpa only [List.length_set, List.length_map] using this)) rfl rfl rfl rfl rfl rfl ?_)
  refine He 0 tk ek rfl rfl rfl rfl tv rfl rfl (WH.nil rfl (Qn (Ws (Wg (Wr 3 tk sg0 rfl rfl tv (Wn (Qn (Wc rfl (fun h16 => ?_) (fun h16 => ?_)))))))))
  ·replace H := of_t H h16
   refine Ws (Hp (.one 0 true (.one 1 true (.one 2 true (.one 3 true (.one 4 false (.one 5 false (.one 6 true .done))))))) [102, 103, 106, 113] [106, 113] rfl (by kernel_rfl) rfl (by kernel_rfl) rfl rfl (fun _ h => h) rfl rfl rfl (fun _ _ _ h => h) fun FK NK wK K => (Hr 4 tk rfl rfl rfl rfl tv (He 0 tk ek rfl rfl rfl rfl tv rfl rfl (He 0 tk ek rfl rfl rfl rfl tv rfl rfl (Hr 1 tk rfl rfl rfl rfl tv (WH.nil rfl (Qn (Wt (QB.r (QT.r (QT.r (QB.r (QT.r ?_)))))))))))))
   cases H
   exact Ends.autoC tk rfl rfl rfl tv
  replace H := of_f H h16
  refine Wk (Qb (Qn ?_))
  exact Wg (Wr 3 tk sg0 rfl rfl tv (Wn (Qn (⟨⟨(k7, (IntKind.i64.wrap (s6.1 + 1), x14.2.S, x14.2.At, x14.2.Err, s6.2.2.2.2.set s6.1.toNat (IntKind.i64.wrap (iMin x14.1 (2147483648 : Int))))), H⟩, Nat.lt_succ_self _, Less.mk' ⟨rfl, rfl, rfl, rfl, rfl, rfl, rfl, tv⟩ ⟨rfl, rfl, rfl, rfl, tv⟩⟩))))
 replace H := of_f H h8
 refine WC.exit (Qx (Qx (Qh (Qn ?_))))
 refine Ws ?_
 obtain ⟨g17_2_1, H⟩ := of_need H
 obtain ⟨g17_5_1, H⟩ := of_need H
 refine WC.heldF [(2, .ptr 102 0), (3, .ptr 103 0), (6, .ptr 106 0), (14, .ptr 114 0)] [(102, .box 51 [.d (.int .i64 0), .d (.int .i64 0), .d (.int .i64 0)]), (103, .box 87 [.d (.str ByteArray.empty), .d (.int .i64 0), .d (.int .i64 0)]), (106, .box 87 [.d (.str s6.2.1), .d (.int .i64 s6.2.2.1), .d (.int .i64 s6.2.2.2.1)]), (114, .box 51 [.d (.int .i64 x1.1), .d (.int .i64 (s6.2.2.2.2.getD (0 : Int).toNat default)), .d (.int .i64 (s6.2.2.2.2.getD (1 : Int).toNat default))])] (.one 0 true (.one 1 true (.one 4 true (.fork (.one 2 false (.fork (.one 3 false (.fork (.one 5 false (.fork (.one 6 false (.one 7 true (.one 8 false (.one 9 false .done)))) (.one 8 false (.one 6 false (.one 7 true (.one 9 false .done)))))) (.one 8 false (.one 5 false (.one 6 false (.one 7 true (.one 9 false .done))))))) (.fork (.one 5 false (.fork (.one 3 false (.fork (.one 6 false (.one 7 true (.one 8 false (.one 9 false .done)))) (.one 8 false (.one 6 false (.one 7 true (.one 9 false .done)))))) (.fork (.one 6 false (.fork (.one 3 false (.one 7 true (.one 8 false (.one 9 false .done)))) (.one 8 false (.one 3 false (.one 7 true (.one 9 false .done)))))) (.one 8 false (.fork (.one 3 false (.one 6 false (.one 7 true (.one 9 false .done)))) (.one 6 false (.one 3 false (.one 7 true (.one 9 false .done))))))))) (.one 8 false (.fork (.one 3 false (.one 5 false (.one 6 false (.one 7 true (.one 9 false .done))))) (.one 5 false (.fork (.one 3 false (.one 6 false (.one 7 true (.one 9 false .done)))) (.one 6 false (.one 3 false (.one 7 true (.one 9 false .done))))))))))) (.fork (.one 5 false (.fork (.one 2 false (.fork (.one 3 false (.fork (.one 6 false (.one 7 true (.one 8 false (.one 9 false .done)))) (.one 8 false (.one 6 false (.one 7 true (.one 9 false .done)))))) (.fork (.one 6 false (.fork (.one 3 false (.one 7 true (.one 8 false (.one 9 false .done)))) (.one 8 false (.one 3 false (.one 7 true (.one 9 false .done)))))) (.one 8 false (.fork (.one 3 false (.one 6 false (.one 7 true (.one 9 false .done)))) (.one 6 false (.one 3 false (.one 7 true (.one 9 false .done))))))))) (.fork (.one 6 false (.fork (.one 2 false (.fork (.one 3 false (.one 7 true (.one 8 false (.one 9 false .done)))) (.one 8 false (.one 3 false (.one 7 true (.one 9 false .done)))))) (.one 8 false (.one 2 false (.one 3 false (.one 7 true (.one 9 false .done))))))) (.one 8 false (.fork (.one 2 false (.fork (.one 3 false (.one 6 false (.one 7 true (.one 9 false .done)))) (.one 6 false (.one 3 false (.one 7 true (.one 9 false .done)))))) (.one 6 false (.one 2 false (.one 3 false (.one 7 true (.one 9 false .done)))))))))) (.one 8 false (.fork (.one 2 false (.fork (.one 3 false (.one 5 false (.one 6 false (.one 7 true (.one 9 false .done))))) (.one 5 false (.fork (.one 3 false (.one 6 false (.one 7 true (.one 9 false .done)))) (.one 6 false (.one 3 false (.one 7 true (.one 9 false .done)))))))) (.one 5 false (.fork (.one 2 false (.fork (.one 3 false (.one 6 false (.one 7 true (.one 9 false .done)))) (.one 6 false (.one 3 false (.one 7 true (.one 9 false .done)))))) (.one 6 false (.one 2 false (.one 3 false (.one 7 true (.one 9 false .done)))))))))))))) [102, 103, 106] [102, 103, 106] rfl (by kernel_rfl) rfl (by kernel_rfl) rfl rfl (fun _ h => h) rfl rfl rfl (fun FK NK wK K => ?_) ?_
 ·refine Hr 1 tk rfl rfl rfl rfl tv (WH.mv rfl rfl rfl rfl rfl rfl rfl rfl rfl (WH.mv rfl rfl rfl rfl rfl rfl rfl rfl rfl (WH.fork ?_ (WH.fork ?_ ?_))))
  ·refine WH.yvs rfl (LJ.Y.idxRel enc_i64 s6.2.2.2.2 (0 : Int) tk rfl rfl rfl rfl rfl (nIn_ok g17_2_1)) rfl rfl rfl rfl rfl (WH.fork ?_ (WH.fork ?_ ?_))
   ·refine WH.yvs rfl (LJ.Y.loadRel enc_i64 s6.2.2.2.2 (0 : Int) 0 rfl rfl (fun _ => rfl) rfl (by kernel_rfl) rfl (by first | exact nIn_ok g17_2_1 | (have := nIn_ok g17_2_1; simpa only [List.length_set, List.length_map] using this))) rfl rfl rfl rfl rfl (WH.fork ?_ ?_)
    ·refine WH.yvs rfl (LJ.Y.idxRel enc_i64 s6.2.2.2.2 (1 : Int) tk rfl rfl rfl rfl rfl (nIn_ok g17_5_1)) rfl rfl rfl rfl rfl (WH.fork ?_ ?_)
     ·exact WH.yvs rfl (LJ.Y.loadRel enc_i64 s6.2.2.2.2 (1 : Int) 0 rfl rfl (fun _ => rfl) rfl (by kernel_rfl) rfl (by first | exact nIn_ok g17_5_1 | (have := nIn_ok g17_5_1; simpa only [List.length_set, List.length_map] using this))) rfl rfl rfl rfl rfl (Hr 1 tk rfl rfl rfl rfl tv (WH.alloc 114 tk rfl rfl rfl rfl rfl rfl (He 0 tk ek rfl rfl rfl rfl tv rfl rfl (Hn rfl (LessW.mk' ⟨Ao rfl, Ao rfl, Ao rfl, Ao rfl, tv⟩ ⟨rfl, rfl, rfl, rfl, tv⟩)))))
     ·exact WH.alloc 114 tk rfl rfl rfl rfl rfl rfl (WH.yvs rfl (LJ.Y.loadRel enc_i64 s6.2.2.2.2 (1 : Int) 0 rfl rfl (fun _ => rfl) rfl (by kernel_rfl) rfl (by first | exact nIn_ok g17_5_1 | (have := nIn_ok g17_5_1; simpa only [List.length_set, List.length_map] using this))) rfl rfl rfl rfl rfl (Hr 1 tk rfl rfl rfl rfl tv (He 0 tk ek rfl rfl rfl rfl tv rfl rfl (Hn rfl (LessW.mk' ⟨Ao rfl, Ao rfl, Ao rfl, Ao rfl, tv⟩ ⟨rfl, rfl, rfl, rfl, tv⟩)))))
    ·exact WH.alloc 114 tk rfl rfl rfl rfl rfl rfl (WH.yvs rfl (LJ.Y.idxRel enc_i64 s6.2.2.2.2 (1 : Int) tk rfl rfl rfl rfl rfl (nIn_ok g17_5_1)) rfl rfl rfl rfl rfl (WH.yvs rfl (LJ.Y.loadRel enc_i64 s6.2.2.2.2 (1 : Int) 0 rfl rfl (fun _ => rfl) rfl (by kernel_rfl) rfl (by first | exact nIn_ok g17_5_1 | (have := nIn_ok g17_5_1; simpa only [List.length_set, List.length_map] using this))) rfl rfl rfl rfl rfl (Hr 1 tk rfl rfl rfl rfl tv (He 0 tk ek rfl rfl rfl rfl tv rfl rfl (Hn rfl (LessW.mk' ⟨Ao rfl, Ao rfl, Ao rfl, Ao rfl, tv⟩ ⟨rfl, rfl, rfl, rfl, tv⟩))))))
   ·refine WH.yvs rfl (LJ.Y.idxRel enc_i64 s6.2.2.2.2 (1 : Int) tk rfl rfl rfl rfl rfl (nIn_ok g17_5_1)) rfl rfl rfl rfl rfl (WH.fork ?_ (WH.fork ?_ ?_))
    ·refine WH.yvs rfl (LJ.Y.loadRel enc_i64 s6.2.2.2.2 (0 : Int) 0 rfl rfl (fun _ => rfl) rfl (by kernel_rfl) rfl (by first | exact nIn_ok g17_2_1 | (have := nIn_ok g17_2_1; simpa only [List.length_set, List.length_map] using this))) rfl rfl rfl rfl rfl (WH.fork ?_ ?_)
     ·exact WH.yvs rfl (LJ.Y.loadRel enc_i64 s6.2.2.2.2 (1 : Int) 0 rfl rfl (fun _ => rfl) rfl (by kernel_rfl) rfl (by first | exact nIn_ok g17_5_1 | (have := nIn_ok g17_5_1; simpa only [List.length_set, List.length_map] using this))) rfl rfl rfl rfl rfl (Hr 1 tk rfl rfl rfl rfl tv (WH.alloc 114 tk rfl rfl rfl rfl rfl rfl (He 0 tk ek rfl rfl rfl rfl tv rfl rfl (Hn rfl (LessW.mk' ⟨Ao rfl, Ao rfl, Ao rfl, Ao rfl, tv⟩ ⟨rfl, rfl, rfl, rfl, tv⟩)))))
     ·exact WH.alloc 114 tk rfl rfl rfl rfl rfl rfl (WH.yvs rfl (LJ.Y.loadRel enc_i64 s6.2.2.2.2 (1 : Int) 0 rfl rfl (fun _ => rfl) rfl (by kernel_rfl) rfl (by first | exact nIn_ok g17_5_1 | (have := nIn_ok g17_5_1; simpa only [List.length_set, List.length_map] using this))) rfl rfl rfl rfl rfl (Hr 1 tk rfl rfl rfl rfl tv (He 0 tk ek rfl rfl rfl rfl tv rfl rfl (Hn rfl (LessW.mk' ⟨Ao rfl, Ao rfl, Ao rfl, Ao rfl, tv⟩ ⟨rfl, rfl, rfl, rfl, tv⟩)))))
    ·refine WH.yvs rfl (LJ.Y.loadRel enc_i64 s6.2.2.2.2 (1 : Int) 0 rfl rfl (fun _ => rfl) rfl (by kernel_rfl) rfl (by first | exact nIn_ok g17_5_1 | (have := nIn_ok g17_5_1; simpa only [List.length_set, List.length_map] using this))) rfl rfl rfl rfl rfl (WH.fork ?_ ?_)
     ·exact WH.yvs rfl (LJ.Y.loadRel enc_i64 s6.2.2.2.2 (0 : Int) 0 rfl rfl (fun _ => rfl) rfl (by kernel_rfl) rfl (by first | exact nIn_ok g17_2_1 | (have := nIn_ok g17_2_1; simpa only [List.length_set, List.length_map] using this))) rfl rfl rfl rfl rfl (Hr 1 tk rfl rfl rfl rfl tv (WH.alloc 114 tk rfl rfl rfl rfl rfl rfl (He 0 tk ek rfl rfl rfl rfl tv rfl rfl (Hn rfl (LessW.mk' ⟨Ao rfl, Ao rfl, Ao rfl, Ao rfl, tv⟩ ⟨rfl, rfl, rfl, rfl, tv⟩)))))
     ·exact WH.alloc 114 tk rfl rfl rfl rfl rfl rfl (WH.yvs rfl (LJ.Y.loadRel enc_i64 s6.2.2.2.2 (0 : Int) 0 rfl rfl (fun _ => rfl) rfl (by kernel_rfl) rfl (by first | exact nIn_ok g17_2_1 | (have := nIn_ok g17_2_1; simpa only [List.length_set, List.length_map] using this))) rfl rfl rfl rfl rfl (Hr 1 tk rfl rfl rfl rfl tv (He 0 tk ek rfl rfl rfl rfl tv rfl rfl (Hn rfl (LessW.mk' ⟨Ao rfl, Ao rfl, Ao rfl, Ao rfl, tv⟩ ⟨rfl, rfl, rfl, rfl, tv⟩)))))
    ·refine WH.alloc 114 tk rfl rfl rfl rfl rfl rfl (WH.fork ?_ ?_)
     ·exact WH.yvs rfl (LJ.Y.loadRel enc_i64 s6.2.2.2.2 (0 : Int) 0 rfl rfl (fun _ => rfl) rfl (by kernel_rfl) rfl (by first | exact nIn_ok g17_2_1 | (have := nIn_ok g17_2_1; simpa only [List.length_set, List.length_map] using this))) rfl rfl rfl rfl rfl (WH.yvs rfl (LJ.Y.loadRel enc_i64 s6.2.2.2.2 (1 : Int) 0 rfl rfl (fun _ => rfl) rfl (by kernel_rfl) rfl (by first | exact nIn_ok g17_5_1 | (have := nIn_ok g17_5_1; simpa only [List.length_set, List.length_map] using this))) rfl rfl rfl rfl rfl (Hr 1 tk rfl rfl rfl rfl tv (He 0 tk ek rfl rfl rfl rfl tv rfl rfl (Hn rfl (LessW.mk' ⟨Ao rfl, Ao rfl, Ao rfl, Ao rfl, tv⟩ ⟨rfl, rfl, rfl, rfl, tv⟩)))))
     ·exact WH.yvs rfl (LJ.Y.loadRel enc_i64 s6.2.2.2.2 (1 : Int) 0 rfl rfl (fun _ => rfl) rfl (by kernel_rfl) rfl (by first | exact nIn_ok g17_5_1 | (have := nIn_ok g17_5_1; simpa only [List.length_set, List.length_map] using this))) rfl rfl rfl rfl rfl (WH.yvs rfl (LJ.Y.loadRel enc_i64 s6.2.2.2.2 (0 : Int) 0 rfl rfl (fun _ => rfl) rfl (by kernel_rfl) rfl (by first | exact nIn_ok g17_2_1 | (have := nIn_ok g17_2_1; simpa only [List.length_set, List.length_map] using this))) rfl rfl rfl rfl rfl (Hr 1 tk rfl rfl rfl rfl tv (He 0 tk ek rfl rfl rfl rfl tv rfl rfl (Hn rfl (LessW.mk' ⟨Ao rfl, Ao rfl, Ao rfl, Ao rfl, tv⟩ ⟨rfl, rfl, rfl, rfl, tv⟩)))))
   ·refine WH.alloc 114 tk rfl rfl rfl rfl rfl rfl (WH.fork ?_ ?_)
    ·exact WH.yvs rfl (LJ.Y.loadRel enc_i64 s6.2.2.2.2 (0 : Int) 0 rfl rfl (fun _ => rfl) rfl (by kernel_rfl) rfl (by first | exact nIn_ok g17_2_1 | (have := nIn_ok g17_2_1; simpa only [List.length_set, List.length_map] using this))) rfl rfl rfl rfl rfl (WH.yvs rfl (LJ.Y.idxRel enc_i64 s6.2.2.2.2 (1 : Int) tk rfl rfl rfl rfl rfl (nIn_ok g17_5_1)) rfl rfl rfl rfl rfl (WH.yvs rfl (LJ.Y.loadRel enc_i64 s6.2.2.2.2 (1 : Int) 0 rfl rfl (fun _ => rfl) rfl (by kernel_rfl) rfl (by first | exact nIn_ok g17_5_1 | (have := nIn_ok g17_5_1; simpa only [List.length_set, List.length_map] using this))) rfl rfl rfl rfl rfl (Hr 1 tk rfl rfl rfl rfl tv (He 0 tk ek rfl rfl rfl rfl tv rfl rfl (Hn rfl (LessW.mk' ⟨Ao rfl, Ao rfl, Ao rfl, Ao rfl, tv⟩ ⟨rfl, rfl, rfl, rfl, tv⟩))))))
    ·refine WH.yvs rfl (LJ.Y.idxRel enc_i64 s6.2.2.2.2 (1 : Int) tk rfl rfl rfl rfl rfl (nIn_ok g17_5_1)) rfl rfl rfl rfl rfl (WH.fork ?_ ?_)
     ·exact WH.yvs rfl (LJ.Y.loadRel enc_i64 s6.2.2.2.2 (0 : Int) 0 rfl rfl (fun _ => rfl) rfl (by kernel_rfl) rfl (by first | exact nIn_ok g17_2_1 | (have := nIn_ok g17_2_1; simpa only [List.length_set, List.length_map] using this))) rfl rfl rfl rfl rfl (WH.yvs rfl (LJ.Y.loadRel enc_i64 s6.2.2.2.2 (1 : Int) 0 rfl rfl (fun _ => rfl) rfl (by kernel_rfl) rfl (by first | exact nIn_ok g17_5_1 | (have := nIn_ok g17_5_1; simpa only [List.length_set, List.length_map] using this))) rfl rfl rfl rfl rfl (Hr 1 tk rfl rfl rfl rfl tv (He 0 tk ek rfl rfl rfl rfl tv rfl rfl (Hn rfl (LessW.mk' ⟨Ao rfl, Ao rfl, Ao rfl, Ao rfl, tv⟩ ⟨rfl, rfl, rfl, rfl, tv⟩)))))
     ·exact WH.yvs rfl (LJ.Y.loadRel enc_i64 s6.2.2.2.2 (1 : Int) 0 rfl rfl (fun _ => rfl) rfl (by kernel_rfl) rfl (by first | exact nIn_ok g17_5_1 | (have := nIn_ok g17_5_1; simpa only [List.length_set, List.length_map] using this))) rfl rfl rfl rfl rfl (WH.yvs rfl (LJ.Y.loadRel enc_i64 s6.2.2.2.2 (0 : Int) 0 rfl rfl (fun _ => rfl) rfl (by kernel_rfl) rfl (by first | exact nIn_ok g17_2_1 | (have := nIn_ok g17_2_1; simpa only [List.length_set, List.length_map] using this))) rfl rfl rfl rfl rfl (Hr 1 tk rfl rfl rfl rfl tv (He 0 tk ek rfl rfl rfl rfl tv rfl rfl (Hn rfl (LessW.mk' ⟨Ao rfl, Ao rfl, Ao rfl, Ao rfl, tv⟩ ⟨rfl, rfl, rfl, rfl, tv⟩)))))
  ·refine WH.yvs rfl (LJ.Y.idxRel enc_i64 s6.2.2.2.2 (1 : Int) tk rfl rfl rfl rfl rfl (nIn_ok g17_5_1)) rfl rfl rfl rfl rfl (WH.fork ?_ (WH.fork ?_ ?_))
   ·refine WH.yvs rfl (LJ.Y.idxRel enc_i64 s6.2.2.2.2 (0 : Int) tk rfl rfl rfl rfl rfl (nIn_ok g17_2_1)) rfl rfl rfl rfl rfl (WH.fork ?_ (WH.fork ?_ ?_))
    ·refine WH.yvs rfl (LJ.Y.loadRel enc_i64 s6.2.2.2.2 (0 : Int) 0 rfl rfl (fun _ => rfl) rfl (by kernel_rfl) rfl (by first | exact nIn_ok g17_2_1 | (have := nIn_ok g17_2_1; simpa only [List.length_set, List.length_map] using this))) rfl rfl rfl rfl rfl (WH.fork ?_ ?_)
     ·exact WH.yvs rfl (LJ.Y.loadRel enc_i64 s6.2.2.2.2 (1 : Int) 0 rfl rfl (fun _ => rfl) rfl (by kernel_rfl) rfl (by first | exact nIn_ok g17_5_1 | (have := nIn_ok g17_5_1; simpa only [List.length_set, List.length_map] using this))) rfl rfl rfl rfl rfl (Hr 1 tk rfl rfl rfl rfl tv (WH.alloc 114 tk rfl rfl rfl rfl rfl rfl (He 0 tk ek rfl rfl rfl rfl tv rfl rfl (Hn rfl (LessW.mk' ⟨Ao rfl, Ao rfl, Ao rfl, Ao rfl, tv⟩ ⟨rfl, rfl, rfl, rfl, tv⟩)))))
     ·exact WH.alloc 114 tk rfl rfl rfl rfl rfl rfl (WH.yvs rfl (LJ.Y.loadRel enc_i64 s6.2.2.2.2 (1 : Int) 0 rfl rfl (fun _ => rfl) rfl (by kernel_rfl) rfl (by first | exact nIn_ok g17_5_1 | (have := nIn_ok g17_5_1; simpa only [List.length_set, List.length_map] using this))) rfl rfl rfl rfl rfl (Hr 1 tk rfl rfl rfl rfl tv (He 0 tk ek rfl rfl rfl rfl tv rfl rfl (Hn rfl (LessW.mk' ⟨Ao rfl, Ao rfl, Ao rfl, Ao rfl, tv⟩ ⟨rfl, rfl, rfl, rfl, tv⟩)))))
    ·refine WH.yvs rfl (LJ.Y.loadRel enc_i64 s6.2.2.2.2 (1 : Int) 0 rfl rfl (fun _ => rfl) rfl (by kernel_rfl) rfl (by first | exact nIn_ok g17_5_1 | (have := nIn_ok g17_5_1; simpa only [List.length_set, List.length_map] using this))) rfl rfl rfl rfl rfl (WH.fork ?_ ?_)
     ·exact WH.yvs rfl (LJ.Y.loadRel enc_i64 s6.2.2.2.2 (0 : Int) 0 rfl rfl (fun _ => rfl) rfl (by kernel_rfl) rfl (by first | exact nIn_ok g17_2_1 | (have := nIn_ok g17_2_1; simpa only [List.length_set, List.length_map] using this))) rfl rfl rfl rfl rfl (Hr 1 tk rfl rfl rfl rfl tv (WH.alloc 114 tk rfl rfl rfl rfl rfl rfl (He 0 tk ek rfl rfl rfl rfl tv rfl rfl (Hn rfl (LessW.mk' ⟨Ao rfl, Ao rfl, Ao rfl, Ao rfl, tv⟩ ⟨rfl, rfl, rfl, rfl, tv⟩)))))
     ·exact WH.alloc 114 tk rfl rfl rfl rfl rfl rfl (WH.yvs rfl (LJ.Y.loadRel enc_i64 s6.2.2.2.2 (0 : Int) 0 rfl rfl (fun _ => rfl) rfl (by kernel_rfl) rfl (by first | exact nIn_ok g17_2_1 | (have := nIn_ok g17_2_1; simpa only [List.length_set, List.length_map] using this))) rfl rfl rfl rfl rfl (Hr 1 tk rfl rfl rfl rfl tv (He 0 tk ek rfl rfl rfl rfl tv rfl rfl (Hn rfl (LessW.mk' ⟨Ao rfl, Ao rfl, Ao rfl, Ao rfl, tv⟩ ⟨rfl, rfl, rfl, rfl, tv⟩)))))
    ·refine WH.alloc 114 tk rfl rfl rfl rfl rfl rfl (WH.fork ?_ ?_)
     ·exact WH.yvs rfl (LJ.Y.loadRel enc_i64 s6.2.2.2.2 (0 : Int) 0 rfl rfl (fun _ => rfl) rfl (by kernel_rfl) rfl (by first | exact nIn_ok g17_2_1 | (have := nIn_ok g17_2_1; simpa only [List.length_set, List.length_map] using this))) rfl rfl rfl rfl rfl (WH.yvs rfl (LJ.Y.loadRel enc_i64 s6.2.2.2.2 (1 : Int) 0 rfl rfl (fun _ => rfl) rfl (by kernel_rfl) rfl (by first | exact nIn_ok g17_5_1 | (have := nIn_ok g17_5_1; simpa only [List.length_set, List.length_map] using this))) rfl rfl rfl rfl rfl (Hr 1 tk rfl rfl rfl rfl tv (He 0 tk ek rfl rfl rfl rfl tv rfl rfl (Hn rfl (LessW.mk' ⟨Ao rfl, Ao rfl, Ao rfl, Ao rfl, tv⟩ ⟨rfl, rfl, rfl, rfl, tv⟩)))))
     ·exact WH.yvs rfl (LJ.Y.loadRel enc_i64 s6.2.2.2.2 (1 : Int) 0 rfl rfl (fun _ => rfl) rfl (by kernel_rfl) rfl (by first | exact nIn_ok g17_5_1 | (have := nIn_ok g17_5_1; simpa only [List.length_set, List.length_map] using this))) rfl rfl rfl rfl rfl (WH.yvs rfl (LJ.Y.loadRel enc_i64 s6.2.2.2.2 (0 : Int) 0 rfl rfl (fun _ => rfl) rfl (by kernel_rfl) rfl (by first | exact nIn_ok g17_2_1 | (have := nIn_ok g17_2_1; simpa only [List.length_set, List.length_map] using this))) rfl rfl rfl rfl rfl (Hr 1 tk rfl rfl rfl rfl tv (He 0 tk ek rfl rfl rfl rfl tv rfl rfl (Hn rfl (LessW.mk' ⟨Ao rfl, Ao rfl, Ao rfl, Ao rfl, tv⟩ ⟨rfl, rfl, rfl, rfl, tv⟩)))))
   ·refine WH.yvs rfl (LJ.Y.loadRel enc_i64 s6.2.2.2.2 (1 : Int) 0 rfl rfl (fun _ => rfl) rfl (by kernel_rfl) rfl (by first | exact nIn_ok g17_5_1 | (have := nIn_ok g17_5_1; simpa only [List.length_set, List.length_map] using this))) rfl rfl rfl rfl rfl (WH.fork ?_ ?_)
    ·refine WH.yvs rfl (LJ.Y.idxRel enc_i64 s6.2.2.2.2 (0 : Int) tk rfl rfl rfl rfl rfl (nIn_ok g17_2_1)) rfl rfl rfl rfl rfl (WH.fork ?_ ?_)
     ·exact WH.yvs rfl (LJ.Y.loadRel enc_i64 s6.2.2.2.2 (0 : Int) 0 rfl rfl (fun _ => rfl) rfl (by kernel_rfl) rfl (by first | exact nIn_ok g17_2_1 | (have := nIn_ok g17_2_1; simpa only [List.length_set, List.length_map] using this))) rfl rfl rfl rfl rfl (Hr 1 tk rfl rfl rfl rfl tv (WH.alloc 114 tk rfl rfl rfl rfl rfl rfl (He 0 tk ek rfl rfl rfl rfl tv rfl rfl (Hn rfl (LessW.mk' ⟨Ao rfl, Ao rfl, Ao rfl, Ao rfl, tv⟩ ⟨rfl, rfl, rfl, rfl, tv⟩)))))
     ·exact WH.alloc 114 tk rfl rfl rfl rfl rfl rfl (WH.yvs rfl (LJ.Y.loadRel enc_i64 s6.2.2.2.2 (0 : Int) 0 rfl rfl (fun _ => rfl) rfl (by kernel_rfl) rfl (by first | exact nIn_ok g17_2_1 | (have := nIn_ok g17_2_1; simpa only [List.length_set, List.length_map] using this))) rfl rfl rfl rfl rfl (Hr 1 tk rfl rfl rfl rfl tv (He 0 tk ek rfl rfl rfl rfl tv rfl rfl (Hn rfl (LessW.mk' ⟨Ao rfl, Ao rfl, Ao rfl, Ao rfl, tv⟩ ⟨rfl, rfl, rfl, rfl, tv⟩)))))
    ·exact WH.alloc 114 tk rfl rfl rfl rfl rfl rfl (WH.yvs rfl (LJ.Y.idxRel enc_i64 s6.2.2.2.2 (0 : Int) tk rfl rfl rfl rfl rfl (nIn_ok g17_2_1)) rfl rfl rfl rfl rfl (WH.yvs rfl (LJ.Y.loadRel enc_i64 s6.2.2.2.2 (0 : Int) 0 rfl rfl (fun _ => rfl) rfl (by kernel_rfl) rfl (by first | exact nIn_ok g17_2_1 | (have := nIn_ok g17_2_1; simpa only [List.length_set, List.length_map] using this))) rfl rfl rfl rfl rfl (Hr 1 tk rfl rfl rfl rfl tv (He 0 tk ek rfl rfl rfl rfl tv rfl rfl (Hn rfl (LessW.mk' ⟨Ao rfl, Ao rfl, Ao rfl, Ao rfl, tv⟩ ⟨rfl, rfl, rfl, rfl, tv⟩))))))
   ·refine WH.alloc 114 tk rfl rfl rfl rfl rfl rfl (WH.fork ?_ ?_)
    ·refine WH.yvs rfl (LJ.Y.idxRel enc_i64 s6.2.2.2.2 (0 : Int) tk rfl rfl rfl rfl rfl (nIn_ok g17_2_1)) rfl rfl rfl rfl rfl (WH.fork ?_ ?_)
     ·exact WH.yvs rfl (LJ.Y.loadRel enc_i64 s6.2.2.2.2 (0 : Int) 0 rfl rfl (fun _ => rfl) rfl (by kernel_rfl) rfl (by first | exact nIn_ok g17_2_1 | (have := nIn_ok g17_2_1; simpa only [List.length_set, List.length_map] using this))) rfl rfl rfl rfl rfl (WH.yvs rfl (LJ.Y.loadRel enc_i64 s6.2.2.2.2 (1 : Int) 0 rfl rfl (fun _ => rfl) rfl (by kernel_rfl) rfl (by first | exact nIn_ok g17_5_1 | (have := nIn_ok g17_5_1; simpa only [List.length_set, List.length_map] using this))) rfl rfl rfl rfl rfl (Hr 1 tk rfl rfl rfl rfl tv (He 0 tk ek rfl rfl rfl rfl tv rfl rfl (Hn rfl (LessW.mk' ⟨Ao rfl, Ao rfl, Ao rfl, Ao rfl, tv⟩ ⟨rfl, rfl, rfl, rfl, tv⟩)))))
     ·exact WH.yvs rfl (LJ.Y.loadRel enc_i64 s6.2.2.2.2 (1 : Int) 0 rfl rfl (fun _ => rfl) rfl (by kernel_rfl) rfl (by first | exact nIn_ok g17_5_1 | (have := nIn_ok g17_5_1; simpa only [List.length_set, List.length_map] using this))) rfl rfl rfl rfl rfl (WH.yvs rfl (LJ.Y.loadRel enc_i64 s6.2.2.2.2 (0 : Int) 0 rfl rfl (fun _ => rfl) rfl (by kernel_rfl) rfl (by first | exact nIn_ok g17_2_1 | (have := nIn_ok g17_2_1; simpa only [List.length_set, List.length_map] using this))) rfl rfl rfl rfl rfl (Hr 1 tk rfl rfl rfl rfl tv (He 0 tk ek rfl rfl rfl rfl tv rfl rfl (Hn rfl (LessW.mk' ⟨Ao rfl, Ao rfl, Ao rfl, Ao rfl, tv⟩ ⟨rfl, rfl, rfl, rfl, tv⟩)))))
    ·exact WH.yvs rfl (LJ.Y.loadRel enc_i64 s6.2.2.2.2 (1 : Int) 0 rfl rfl (fun _ => rfl) rfl (by kernel_rfl) rfl (by first | exact nIn_ok g17_5_1 | (have := nIn_ok g17_5_1; simpa only [List.length_set, List.length_map] using this))) rfl rfl rfl rfl rfl (WH.yvs rfl (LJ.Y.idxRel enc_i64 s6.2.2.2.2 (0 : Int) tk rfl rfl rfl rfl rfl (nIn_ok g17_2_1)) rfl rfl rfl rfl rfl (WH.yvs rfl (LJ.Y.loadRel enc_i64 s6.2.2.2.2 (0 : Int) 0 rfl rfl (fun _ => rfl) rfl (by kernel_rfl) rfl (by first | exact nIn_ok g17_2_1 | (have := nIn_ok g17_2_1; simpa only [List.length_set, List.length_map] using this))) rfl rfl rfl rfl rfl (Hr 1 tk rfl rfl rfl rfl tv (He 0 tk ek rfl rfl rfl rfl tv rfl rfl (Hn rfl (LessW.mk' ⟨Ao rfl, Ao rfl, Ao rfl, Ao rfl, tv⟩ ⟨rfl, rfl, rfl, rfl, tv⟩))))))
  ·refine WH.alloc 114 tk rfl rfl rfl rfl rfl rfl (WH.fork ?_ ?_)
   ·refine WH.yvs rfl (LJ.Y.idxRel enc_i64 s6.2.2.2.2 (0 : Int) tk rfl rfl rfl rfl rfl (nIn_ok g17_2_1)) rfl rfl rfl rfl rfl (WH.fork ?_ ?_)
    ·exact WH.yvs rfl (LJ.Y.loadRel enc_i64 s6.2.2.2.2 (0 : Int) 0 rfl rfl (fun _ => rfl) rfl (by kernel_rfl) rfl (by first | exact nIn_ok g17_2_1 | (have := nIn_ok g17_2_1; simpa only [List.length_set, List.length_map] using this))) rfl rfl rfl rfl rfl (WH.yvs rfl (LJ.Y.idxRel enc_i64 s6.2.2.2.2 (1 : Int) tk rfl rfl rfl rfl rfl (nIn_ok g17_5_1)) rfl rfl rfl rfl rfl (WH.yvs rfl (LJ.Y.loadRel enc_i64 s6.2.2.2.2 (1 : Int) 0 rfl rfl (fun _ => rfl) rfl (by kernel_rfl) rfl (by first | exact nIn_ok g17_5_1 | (have := nIn_ok g17_5_1; simpa only [List.length_set, List.length_map] using this))) rfl rfl rfl rfl rfl (Hr 1 tk rfl rfl rfl rfl tv (He 0 tk ek rfl rfl rfl rfl tv rfl rfl (Hn rfl (LessW.mk' ⟨Ao rfl, Ao rfl, Ao rfl, Ao rfl, tv⟩ ⟨rfl, rfl, rfl, rfl, tv⟩))))))
    ·refine WH.yvs rfl (LJ.Y.idxRel enc_i64 s6.2.2.2.2 (1 : Int) tk rfl rfl rfl rfl rfl (nIn_ok g17_5_1)) rfl rfl rfl rfl rfl (WH.fork ?_ ?_)
     ·exact WH.yvs rfl (LJ.Y.loadRel enc_i64 s6.2.2.2.2 (0 : Int) 0 rfl rfl (fun _ => rfl) rfl (by kernel_rfl) rfl (by first | exact nIn_ok g17_2_1 | (have := nIn_ok g17_2_1; simpa only [List.length_set, List.length_map] using this))) rfl rfl rfl rfl rfl (WH.yvs rfl (LJ.Y.loadRel enc_i64 s6.2.2.2.2 (1 : Int) 0 rfl rfl (fun _ => rfl) rfl (by kernel_rfl) rfl (by first | exact nIn_ok g17_5_1 | (have := nIn_ok g17_5_1; simpa only [List.length_set, List.length_map] using this))) rfl rfl rfl rfl rfl (Hr 1 tk rfl rfl rfl rfl tv (He 0 tk ek rfl rfl rfl rfl tv rfl rfl (Hn rfl (LessW.mk' ⟨Ao rfl, Ao rfl, Ao rfl, Ao rfl, tv⟩ ⟨rfl, rfl, rfl, rfl, tv⟩)))))
     ·exact WH.yvs rfl (LJ.Y.loadRel enc_i64 s6.2.2.2.2 (1 : Int) 0 rfl rfl (fun _ => rfl) rfl (by kernel_rfl) rfl (by first | exact nIn_ok g17_5_1 | (have := nIn_ok g17_5_1; simpa only [List.length_set, List.length_map] using this))) rfl rfl rfl rfl rfl (WH.yvs rfl (LJ.Y.loadRel enc_i64 s6.2.2.2.2 (0 : Int) 0 rfl rfl (fun _ => rfl) rfl (by kernel_rfl) rfl (by first | exact nIn_ok g17_2_1 | (have := nIn_ok g17_2_1; simpa only [List.length_set, List.length_map] using this))) rfl rfl rfl rfl rfl (Hr 1 tk rfl rfl rfl rfl tv (He 0 tk ek rfl rfl rfl rfl tv rfl rfl (Hn rfl (LessW.mk' ⟨Ao rfl, Ao rfl, Ao rfl, Ao rfl, tv⟩ ⟨rfl, rfl, rfl, rfl, tv⟩)))))
   ·refine WH.yvs rfl (LJ.Y.idxRel enc_i64 s6.2.2.2.2 (1 : Int) tk rfl rfl rfl rfl rfl (nIn_ok g17_5_1)) rfl rfl rfl rfl rfl (WH.fork ?_ ?_)
    ·refine WH.yvs rfl (LJ.Y.idxRel enc_i64 s6.2.2.2.2 (0 : Int) tk rfl rfl rfl rfl rfl (nIn_ok g17_2_1)) rfl rfl rfl rfl rfl (WH.fork ?_ ?_)
     ·exact WH.yvs rfl (LJ.Y.loadRel enc_i64 s6.2.2.2.2 (0 : Int) 0 rfl rfl (fun _ => rfl) rfl (by kernel_rfl) rfl (by first | exact nIn_ok g17_2_1 | (have := nIn_ok g17_2_1; simpa only [List.length_set, List.length_map] using this))) rfl rfl rfl rfl rfl (WH.yvs rfl (LJ.Y.loadRel enc_i64 s6.2.2.2.2 (1 : Int) 0 rfl rfl (fun _ => rfl) rfl (by kernel_rfl) rfl (by first | exact nIn_ok g17_5_1 | (have := nIn_ok g17_5_1; simpa only [List.length_set, List.length_map] using this))) rfl rfl rfl rfl rfl (Hr 1 tk rfl rfl rfl rfl tv (He 0 tk ek rfl rfl rfl rfl tv rfl rfl (Hn rfl (LessW.mk' ⟨Ao rfl, Ao rfl, Ao rfl, Ao rfl, tv⟩ ⟨rfl, rfl, rfl, rfl, tv⟩)))))
     ·exact WH.yvs rfl (LJ.Y.loadRel enc_i64 s6.2.2.2.2 (1 : Int) 0 rfl rfl (fun _ => rfl) rfl (by kernel_rfl) rfl (by first | exact nIn_ok g17_5_1 | (have := nIn_ok g17_5_1; simpa only [List.length_set, List.length_map] using this))) rfl rfl rfl rfl rfl (WH.yvs rfl (LJ.Y.loadRel enc_i64 s6.2.2.2.2 (0 : Int) 0 rfl rfl (fun _ => rfl) rfl (by kernel_rfl) rfl (by first | exact nIn_ok g17_2_1 | (have := nIn_ok g17_2_1; simpa only [List.length_set, List.length_map] using this))) rfl rfl rfl rfl rfl (Hr 1 tk rfl rfl rfl rfl tv (He 0 tk ek rfl rfl rfl rfl tv rfl rfl (Hn rfl (LessW.mk' ⟨Ao rfl, Ao rfl, Ao rfl, Ao rfl, tv⟩ ⟨rfl, rfl, rfl, rfl, tv⟩)))))
    ·exact WH.yvs rfl (LJ.Y.loadRel enc_i64 s6.2.2.2.2 (1 : Int) 0 rfl rfl (fun _ => rfl) rfl (by kernel_rfl) rfl (by first | exact nIn_ok g17_5_1 | (have := nIn_ok g17_5_1; simpa only [List.length_set, List.length_map] using this))) rfl rfl rfl rfl rfl (WH.yvs rfl (LJ.Y.idxRel enc_i64 s6.2.2.2.2 (0 : Int) tk rfl rfl rfl rfl rfl (nIn_ok g17_2_1)) rfl rfl rfl rfl rfl (WH.yvs rfl (LJ.Y.loadRel enc_i64 s6.2.2.2.2 (0 : Int) 0 rfl rfl (fun _ => rfl) rfl (by kernel_rfl) rfl (by first | exact nIn_ok g17_2_1 | (have := nIn_ok g17_2_1; simpa only [List.length_set, List.length_map] using this))) rfl rfl rfl rfl rfl (Hr 1 tk rfl rfl rfl rfl tv (He 0 tk ek rfl rfl rfl rfl tv rfl rfl (Hn rfl (LessW.mk' ⟨Ao rfl, Ao rfl, Ao rfl, Ao rfl, tv⟩ ⟨rfl, rfl, rfl, rfl, tv⟩))))))
 ·refine Qn (Ws (Ws (Wg (Wr 1 tk sg0 rfl rfl tv ?_))))
  obtain ⟨x17, hx17, H⟩ := of_bind H
  refine Wf [] (ref07_Check_0 _ hx17) ref07_Check_f rfl rfl tv rfl rfl rfl (Wr 1 tk sg0 rfl rfl tv (Wn (Qn (Ws (Wg (Wr 2 tk sg0 rfl rfl tv (Wn (Qn (Wc rfl (fun h18 => ?_) (fun h18 => ?_))))))))))
  ·replace H := of_t H h18
   refine Ws (Hp (.one 0 true (.one 1 true (.one 2 true (.one 3 false (.one 4 false (.one 5 true .done)))))) [102, 103, 106, 114] [106, 114] rfl (by kernel_rfl) rfl (by kernel_rfl) rfl rfl (fun _ h => h) rfl rfl rfl (fun _ _ _ h => h) fun FK NK wK K => (Hr 3 tk rfl rfl rfl rfl tv (He 0 tk ek rfl rfl rfl rfl tv rfl rfl (He 0 tk ek rfl rfl rfl rfl tv rfl rfl (Hr 1 tk rfl rfl rfl rfl tv (WH.nil rfl (Qn (Wt (QT.r ?_)))))))))
   cases H
   exact Ends.autoC tk rfl rfl rfl tv
  replace H := of_f H h18
  refine Wk (Qn (Ws (Hp (.one 0 true (.one 1 true (.one 2 false (.one 3 false (.one 4 true .done))))) [102, 103, 106, 114] [106, 114] rfl (by kernel_rfl) rfl (by kernel_rfl) rfl rfl (fun _ h => h) rfl rfl rfl (fun _ _ _ h => h) fun FK NK wK K => (Hr 2 tk rfl rfl rfl rfl tv (He 0 tk ek rfl rfl rfl rfl tv rfl rfl (He 0 tk ek rfl rfl rfl rfl tv rfl rfl (Hr 1 tk rfl rfl rfl rfl tv (WH.nil rfl (Qn (Wt ?_))))))))))
  cases H
  exact Ends.autoC tk rfl rfl rfl tv
theorem ref07_Read_f : hasFunc Tryd.prog 66 Tryd.f66 := ⟨Tryd.func66, rfl, by kernel_rfl⟩

theorem ref10_function2_0 (a0 : T_ref01_R) {r : T_api_Func × T_ref01_R × Int} (H : ref10_function2 a0 = some r) : LJ.Spec Tryd.prog 39 [.d (.agg [.str a0.S, .int .i64 a0.At, .int .i64 a0.Err])] [] (.tup [.d (.agg [.int .i64 r.1.Args, .int .i64 r.1.Locals, slT enc_api_Ins r.1.Code]), .d (.agg [.str r.2.1.S, .int .i64 r.2.1.At, .int .i64 r.2.1.Err]), .d (.int .i64 r.2.2)]) [] := by
 refine LJ.Spec.code Tryd.func39 rfl 77 rfl rfl [] rfl fun w0 F0 S0 B0 => ?_
 unfold ref10_function2 at H
 refine Ws (Wg (We 101 tk ek eg0 rfl rfl rfl tv (Wa 102 tk rfl rfl rfl (Wa 103 tk rfl rfl rfl (Wr 1 tk sg0 rfl rfl tv (Wn (Qn (Ws (Wg (Wr 1 tk sg0 rfl rfl tv ?_))))))))))
 obtain ⟨x1, hx1, H⟩ := of_bind H
 refine Wf [] (ref01_Number_0 _ hx1) ref01_Number_f rfl rfl tv rfl rfl rfl (Wr 3 tk sg0 rfl rfl tv (Wa 106 tk rfl rfl rfl (Wr 1 tk sg0 rfl rfl tv (We 0 tk ek eg0 rfl rfl rfl tv (Wn (Qn (Ws (Wg (Wr 1 tk sg0 rfl rfl tv ?_)))))))))
 obtain ⟨x2, hx2, H⟩ := of_bind H
 refine Wf [] (ref01_Number_0 _ hx2) ref01_Number_f rfl rfl tv rfl rfl rfl (Wr 3 tk sg0 rfl rfl tv (Wa 108 tk rfl rfl rfl (Wr 1 tk sg0 rfl rfl tv (We 0 tk ek eg0 rfl rfl rfl tv (Wn (Qn (Ws (Wg (Wr 1 tk sg0 rfl rfl tv (WL.yv (LJ.Y.min rfl rfl rfl) rfl rfl rfl (Wr 2 tk sg0 rfl rfl tv (WL.yv (LJ.Y.min rfl rfl rfl) rfl rfl rfl (Wr 2 tk sg0 rfl rfl tv (Wa 109 tk rfl rfl rfl (We 0 tk ek eg0 rfl rfl rfl tv (Wn (Qn (Ws (Wg (Wr 1 tk sg0 rfl rfl tv ?_))))))))))))))))))))
 obtain ⟨x3, hx3, H⟩ := of_bind H
 refine Wf [] (ref10_many_0 _ _ hx3) ref10_many_f rfl rfl tv rfl rfl rfl (Wr 4 tk sg0 rfl rfl tv (Wa 111 tk rfl rfl rfl (Wr 1 tk sg0 rfl rfl tv (We 0 tk ek eg0 rfl rfl rfl tv (Wr 1 tk sg0 rfl rfl tv (Wn (Qn (Ws (Ws (Wg (Wr 3 tk sg0 rfl rfl tv (Wn (Qn (Wc rfl (fun h4 => ?_) (fun h4 => ?_)))))))))))))))
 ·replace H := of_t H h4
  refine Ws (Hp (.one 0 true (.one 1 true (.one 2 true (.one 3 true (.one 4 false (.one 5 false (.one 6 true .done))))))) [101, 102, 103, 106, 108, 109, 111] [101, 106, 108, 109, 111] rfl (by kernel_rfl) rfl (by kernel_rfl) rfl rfl (fun _ h => h) rfl rfl rfl (fun _ _ _ h => h) fun FK NK wK K => (Hr 4 tk rfl rfl rfl rfl tv (He 0 tk ek rfl rfl rfl rfl tv rfl rfl (He 0 tk ek rfl rfl rfl rfl tv rfl rfl (Hr 1 tk rfl rfl rfl rfl tv (WH.nil rfl (Qn (WC.nilF 102 2 6022 51 3 rfl (WC.row 6022 (([] : List T_api_Ins).map enc_api_Ins) rfl rfl rfl (WC.freezeT 6022 enc_api_Ins ([] : List T_api_Ins) rfl rfl rfl rfl (Wt (QT.r ?_))))))))))))
  cases H
  exact Ends.autoC tk rfl rfl rfl tv
 replace H := of_f H h4
 refine Wk (Qn (Ws (Ws (Wg (Wr 2 tk sg0 rfl rfl tv (Wn (Qn (Wc rfl (fun h5 => ?_) (fun h5 => ?_)))))))))
 ·replace H := of_t H h5
  refine Ws (Hp (.one 0 true (.one 1 true (.one 2 true (.one 3 false (.one 4 false (.one 5 true .done)))))) [101, 102, 103, 106, 108, 109, 111] [101, 106, 108, 109, 111] rfl (by kernel_rfl) rfl (by kernel_rfl) rfl rfl (fun _ h => h) rfl rfl rfl (fun _ _ _ h => h) fun FK NK wK K => (Hr 3 tk rfl rfl rfl rfl tv (He 0 tk ek rfl rfl rfl rfl tv rfl rfl (He 0 tk ek rfl rfl rfl rfl tv rfl rfl (Hr 1 tk rfl rfl rfl rfl tv (WH.nil rfl (Qn (WC.nilF 102 2 6022 51 3 rfl (WC.row 6022 (([] : List T_api_Ins).map enc_api_Ins) rfl rfl rfl (WC.freezeT 6022 enc_api_Ins ([] : List T_api_Ins) rfl rfl rfl rfl (Wt (QT.r ?_))))))))))))
  cases H
  exact Ends.autoC tk rfl rfl rfl tv
 replace H := of_f H h5
 refine Wk (Qn (Ws (Ws (Wg (Wr 1 tk sg0 rfl rfl tv (Wn (Qn (Wb (WC.nilF 109 2 1069 51 3 rfl (Wl (ι := {x : Nat × (Int × ByteArray × Int × Int × (List T_api_Ins)) // ref10_function2_l8 x1 x2 x3 x.1 x.2 = some r}) (fun x => [(2, .ptr 102 0), (3, .ptr 103 0), (9, .ptr 109 0), (10, .d (.int .i64 x3.1)), (11, .ptr 111 0), (13, .d (.int .i64 x.1.2.1))]) (fun x => [(102, .box 49 [.d (.int .i64 0), .d (.int .i64 0), .d (.nils)]), (103, .box 87 [.d (.str ByteArray.empty), .d (.int .i64 0), .d (.int .i64 0)]), (109, .box 49 [.d (.int .i64 (IntKind.i64.wrap (iMin x1.1 (2147483648 : Int)))), .d (.int .i64 (IntKind.i64.wrap (iMin x2.1 (2147483648 : Int)))), .own 1069]), (111, .box 87 [.d (.str x.1.2.2.1), .d (.int .i64 x.1.2.2.2.1), .d (.int .i64 x.1.2.2.2.2.1)]), (1069, .row 51 3 (x.1.2.2.2.2.2.map enc_api_Ins))]) (fun x => x.1.1) ⟨(fuel, (0, x3.2.1.S, x3.2.1.At, x3.2.1.Err, ([] : List T_api_Ins))), H⟩ (Less.mk' ⟨rfl, rfl, rfl, rfl, rfl, rfl, tv⟩ ⟨rfl, rfl, rfl, rfl, rfl, tv⟩) fun x => ?_))))))))))
 obtain ⟨⟨k8, s7⟩, H⟩ := x
 rcases k8 with _ | k8
 ·exact of_none H
 rw [ref10_function2_l8] at H
 refine Ws (Ws (Wg (Wr 3 tk sg0 rfl rfl tv (Wn (Qn (Wc rfl (fun h9 => ?_) (fun h9 => ?_)))))))
 ·replace H := of_t H h9
  refine Wk (Qn (Ws (Wb (Ws (Wg (Wr 1 tk sg0 rfl rfl tv ?_))))))
  obtain ⟨x10, hx10, H⟩ := of_bind H
  refine Wf [] (ref07_Read_0 _ hx10) ref07_Read_f rfl rfl tv rfl rfl rfl (Wr 4 tk sg0 rfl rfl tv (Wa 114 tk rfl rfl rfl (Wa 115 tk rfl rfl rfl (We 0 tk ek eg0 rfl rfl rfl tv (We 0 tk ek eg0 rfl rfl rfl tv (Wr 1 tk sg0 rfl rfl tv (Wn (Qn (Ws (Ws (Wg (Wr 2 tk sg0 rfl rfl tv (Wn (Qn (Wc rfl (fun h11 => ?_) (fun h11 => ?_))))))))))))))))
  ·replace H := of_t H h11
   refine Ws (Hp (.one 1 true (.one 2 true (.one 0 false (.one 3 false (.one 4 false (.one 5 true .done)))))) [102, 103, 109, 111, 114, 115] [109, 111, 114, 115] rfl (by kernel_rfl) rfl (by kernel_rfl) rfl rfl (fun _ h => h) rfl rfl rfl (fun _ _ _ h => h) fun FK NK wK K => (Hr 2 tk rfl rfl rfl rfl tv (WH.freezeT 1069 enc_api_Ins s7.2.2.2.2 rfl rfl rfl rfl (WH.val tk rfl rfl rfl rfl rfl tv rfl rfl (He 0 tk ek rfl rfl rfl rfl tv rfl rfl (He 0 tk ek rfl rfl rfl rfl tv rfl rfl (Hr 1 tk rfl rfl rfl rfl tv (WH.nil rfl (Qn (Wt (QT.r (QB.r (QT.r (QT.r (QB.r (QT.r ?_))))))))))))))))
   cases H
   exact Ends.autoC tk rfl rfl rfl tv
  replace H := of_f H h11
  refine Wk (Qn ?_)
  obtain ⟨g15_4_1, H⟩ := of_need H
  refine WC.heldF [(2, .ptr 102 0), (3, .ptr 103 0), (9, .ptr 109 0), (10, .d (.int .i64 x3.1)), (11, .ptr 111 0), (13, .d (.int .i64 s7.1))] [(102, .box 49 [.d (.int .i64 0), .d (.int .i64 0), .d (.nils)]), (103, .box 87 [.d (.str ByteArray.empty), .d (.int .i64 0), .d (.int .i64 0)]), (109, .box 49 [.d (.int .i64 (IntKind.i64.wrap (iMin x1.1 (2147483648 : Int)))), .d (.int .i64 (IntKind.i64.wrap (iMin x2.1 (2147483648 : Int)))), .own 1069]), (111, .box 87 [.d (.str x10.2.1.S), .d (.int .i64 x10.2.1.At), .d (.int .i64 x10.2.1.Err)]), (1069, .row 51 3 ((s7.2.2.2.2 ++ ([x10.1] : List T_api_Ins)).map enc_api_Ins))] (.one 0 true (.one 2 true (.one 5 true (.fork (.one 1 false (.one 3 false (.one 4 false (.one 6 true (.one 7 false (.one 8 false .done)))))) (.one 3 false (.one 1 false (.one 4 false (.one 6 true (.one 7 false (.one 8 false .done)))))))))) [102, 103, 109, 111, 114, 115] [102, 103, 114, 115] rfl (by kernel_rfl) rfl (by kernel_rfl) rfl rfl (fun _ h => h) rfl rfl rfl (fun FK NK wK K => ?_) ?_
  ·refine Hr 3 tk rfl rfl rfl rfl tv (WH.fork ?_ ?_)
   ·refine WH.val tk rfl rfl rfl rfl rfl tv rfl rfl (He 171 tk ek rfl rfl rfl rfl tv rfl rfl (WH.freezeT 171 enc_api_Ins ([x10.1] : List T_api_Ins) rfl rfl rfl rfl (WH.appT enc_api_Ins s7.2.2.2.2 ([x10.1] : List T_api_Ins) tk ek rfl rfl (fun _ => rfl) (fun _ => rfl) rfl rfl rfl rfl rfl (nCap_ok g15_4_1) rfl rfl rfl rfl rfl rfl rfl ?_)))
    exact Hr 1 tk rfl rfl rfl rfl tv (He 0 tk ek rfl rfl rfl rfl tv rfl rfl (He 0 tk ek rfl rfl rfl rfl tv rfl rfl (Hn rfl (LessW.mk' ⟨Ao rfl, Ao rfl, Ao rfl, Ao rfl, Ao rfl, Ao rfl, tv⟩ ⟨rfl, rfl, rfl, rfl, rfl, tv⟩))))
   ·refine He 171 tk ek rfl rfl rfl rfl tv rfl rfl (WH.freezeT 171 enc_api_Ins ([x10.1] : List T_api_Ins) rfl rfl rfl rfl (WH.val tk rfl rfl rfl rfl rfl tv rfl rfl (WH.appT enc_api_Ins s7.2.2.2.2 ([x10.1] : List T_api_Ins) tk ek rfl rfl (fun _ => rfl) (fun _ => rfl) rfl rfl rfl rfl rfl (nCap_ok g15_4_1) rfl rfl rfl rfl rfl rfl rfl ?_)))
    exact Hr 1 tk rfl rfl rfl rfl tv (He 0 tk ek rfl rfl rfl rfl tv rfl rfl (He 0 tk ek rfl rfl rfl rfl tv rfl rfl (Hn rfl (LessW.mk' ⟨Ao rfl, Ao rfl, Ao rfl, Ao rfl, Ao rfl, Ao rfl, tv⟩ ⟨rfl, rfl, rfl, rfl, rfl, tv⟩))))
  ·refine Qb (Qn ?_)
   exact Wg (Wr 3 tk sg0 rfl rfl tv (Wn (Qn (⟨⟨(k8, (IntKind.i64.wrap (s7.1 + 1), x10.2.1.S, x10.2.1.At, x10.2.1.Err, s7.2.2.2.2 ++ ([x10.1] : List T_api_Ins))), H⟩, Nat.lt_succ_self _, Less.mk' ⟨rfl, rfl, rfl, rfl, rfl, rfl, tv⟩ ⟨rfl, rfl, rfl, rfl, rfl, tv⟩⟩))))
 replace H := of_f H h9
 refine WC.exit (Qx (Qx (Qh (Qn ?_))))
 refine Ws (Hp (.one 1 true (.one 0 false (.one 2 false (.one 3 false (.one 4 true .done))))) [102, 103, 109, 111] [109, 111] rfl (by kernel_rfl) rfl (by kernel_rfl) rfl rfl (fun _ h => h) rfl rfl rfl (fun _ _ _ h => h) fun FK NK wK K => (Hr 1 tk rfl rfl rfl rfl tv (WH.freezeT 1069 enc_api_Ins s7.2.2.2.2 rfl rfl rfl rfl (WH.val tk rfl rfl rfl rfl rfl tv rfl rfl (He 0 tk ek rfl rfl rfl rfl tv rfl rfl (He 0 tk ek rfl rfl rfl rfl tv rfl rfl (Hr 1 tk rfl rfl rfl rfl tv (WH.nil rfl (Qn (Wt ?_))))))))))
 cases H
 exact Ends.autoC tk rfl rfl rfl tv
theorem ref10_function2_f : hasFunc Tryd.prog 39 Tryd.f39 := ⟨Tryd.func39, rfl, by kernel_rfl⟩

theorem ref10_Get_0 (a0 : ByteArray) {r : T_api_Program × Int} (H : ref10_Get a0 = some r) : LJ.Spec Tryd.prog 14 [.d (.str a0)] [] (.tup [.d (.agg [slT enc_api_Decl r.1.Decls, slT enc_sl_sl_api_Need r.1.Waits, slT enc_api_Func r.1.Funcs]), .d (.int .i64 r.2)]) [] := by
 refine LJ.Spec.code Tryd.func14 rfl 124 rfl rfl [] rfl fun w0 F0 S0 B0 => ?_
 unfold ref10_Get at H
 refine Ws (Wg (Wa 102 tk rfl rfl rfl (Wr 1 tk sg0 rfl rfl tv (Wn (Qn (Ws (Wg (Wr 2 tk sg0 rfl rfl tv (Wa 104 tk rfl rfl rfl (Wa 105 tk rfl rfl rfl (We 0 tk ek eg0 rfl rfl rfl tv (We 0 tk ek eg0 rfl rfl rfl tv (Wn (Qn (Ws (Ws (Wg (Wr 4 tk sg0 rfl rfl tv ?_))))))))))))))))))
 obtain ⟨g1, H⟩ := of_needS H
 refine Wx 3 3 false tk sg0 rfl rfl (fun hb => ⟨(nTo_ok (g1 hb)), tv⟩) (Wr 1 tk sg0 rfl rfl ⟨by first | exact id | exact fun h => by rw [h]; rfl | simp_all, tv⟩ (Wn (Qn (Wc rfl (fun h2 => ?_) (fun h2 => ?_)))))
 ·replace H := of_t H h2
  refine Ws (Wg (Wr 1 tk sg0 rfl rfl tv (We 0 tk ek eg0 rfl rfl rfl tv (Wr 1 tk sg0 rfl rfl tv (Wn (Qn (WC.nilF 102 0 6020 44 3 rfl (WC.row 6020 (([] : List T_api_Decl).map enc_api_Decl) rfl rfl rfl (WC.nilF 102 1 6021 45 1 rfl (WC.row 6021 (([] : List (List (List T_api_Need))).map enc_sl_sl_api_Need) rfl rfl rfl (WC.nilF 102 2 6022 49 3 rfl (WC.row 6022 (([] : List T_api_Func).map enc_api_Func) rfl rfl rfl (WC.freezeT 6020 enc_api_Decl ([] : List T_api_Decl) rfl rfl rfl rfl (WC.freezeT 6021 enc_sl_sl_api_Need ([] : List (List (List T_api_Need))) rfl rfl rfl rfl (WC.freezeT 6022 enc_api_Func ([] : List T_api_Func) rfl rfl rfl rfl (Wt (QT.r ?_)))))))))))))))))
  cases H
  exact Ends.autoC tk rfl rfl rfl tv
 replace H := of_f H h2
 refine Wk (Qn (Ws (Wg (Wr 2 tk sg0 rfl rfl tv ?_))))
 obtain ⟨x3, hx3, H⟩ := of_bind H
 refine Wf [] (ref08_Read_0 _ hx3) ref08_Read_f rfl rfl tv rfl rfl rfl (Wr 4 tk sg0 rfl rfl tv (Wa 107 tk rfl rfl rfl (Wr 1 tk sg0 rfl rfl tv (We 0 tk ek eg0 rfl rfl rfl tv (Wr 1 tk sg0 rfl rfl tv (Wn (Qn (Ws (Ws (Wg (Wr 2 tk sg0 rfl rfl tv (Wn (Qn (Wc rfl (fun h4 => ?_) (fun h4 => ?_)))))))))))))))
 ·replace H := of_t H h4
  refine Ws (Wg (Wr 2 tk sg0 rfl rfl tv (We 0 tk ek eg0 rfl rfl rfl tv (Wr 1 tk sg0 rfl rfl tv (Wn (Qn (WC.nilF 102 0 6020 44 3 rfl (WC.row 6020 (([] : List T_api_Decl).map enc_api_Decl) rfl rfl rfl (WC.nilF 102 1 6021 45 1 rfl (WC.row 6021 (([] : List (List (List T_api_Need))).map enc_sl_sl_api_Need) rfl rfl rfl (WC.nilF 102 2 6022 49 3 rfl (WC.row 6022 (([] : List T_api_Func).map enc_api_Func) rfl rfl rfl (WC.freezeT 6020 enc_api_Decl ([] : List T_api_Decl) rfl rfl rfl rfl (WC.freezeT 6021 enc_sl_sl_api_Need ([] : List (List (List T_api_Need))) rfl rfl rfl rfl (WC.freezeT 6022 enc_api_Func ([] : List T_api_Func) rfl rfl rfl rfl (Wt (QT.r ?_)))))))))))))))))
  cases H
  exact Ends.autoC tk rfl rfl rfl tv
 replace H := of_f H h4
 refine Wk (Qn (Ws (Wg (Wr 2 tk sg0 rfl rfl tv (We 0 tk ek eg0 rfl rfl rfl tv (Wn (Qn (Ws (Wg (Wr 1 tk sg0 rfl rfl tv ?_))))))))))
 obtain ⟨x5, hx5, H⟩ := of_bind H
 refine Wf [] (ref10_many_0 _ _ hx5) ref10_many_f rfl rfl tv rfl rfl rfl (Wr 4 tk sg0 rfl rfl tv (Wa 110 tk rfl rfl rfl (Wr 1 tk sg0 rfl rfl tv (We 0 tk ek eg0 rfl rfl rfl tv (Wr 1 tk sg0 rfl rfl tv (Wn (Qn (Ws (Ws (Wg (Wr 2 tk sg0 rfl rfl tv (Wn (Qn (Wc rfl (fun h6 => ?_) (fun h6 => ?_)))))))))))))))
 ·replace H := of_t H h6
  refine Ws (Wg (Wr 2 tk sg0 rfl rfl tv (We 0 tk ek eg0 rfl rfl rfl tv (Wr 1 tk sg0 rfl rfl tv (Wn (Qn (WC.nilF 102 0 6020 44 3 rfl (WC.row 6020 (([] : List T_api_Decl).map enc_api_Decl) rfl rfl rfl (WC.nilF 102 1 6021 45 1 rfl (WC.row 6021 (([] : List (List (List T_api_Need))).map enc_sl_sl_api_Need) rfl rfl rfl (WC.nilF 102 2 6022 49 3 rfl (WC.row 6022 (([] : List T_api_Func).map enc_api_Func) rfl rfl rfl (WC.freezeT 6020 enc_api_Decl ([] : List T_api_Decl) rfl rfl rfl rfl (WC.freezeT 6021 enc_sl_sl_api_Need ([] : List (List (List T_api_Need))) rfl rfl rfl rfl (WC.freezeT 6022 enc_api_Func ([] : List T_api_Func) rfl rfl rfl rfl (Wt (QT.r ?_)))))))))))))))))
  cases H
  exact Ends.autoC tk rfl rfl rfl tv
 replace H := of_f H h6
 refine Wk (Qn (Ws (Ws (Wg (Wr 1 tk sg0 rfl rfl tv (Wn (Qn (Wb (WC.nilF 105 1 1073 45 1 rfl (Wl (ι := {x : Nat × (Int × ByteArray × Int × Int × (List (List (List T_api_Need)))) // ref10_Get_l9 a0 x3 x5 x.1 x.2 = some r}) (fun x => [(0, .d (.str a0)), (2, .ptr 102 0), (4, .ptr 104 0), (5, .ptr 105 0), (9, .d (.int .i64 x5.1)), (10, .ptr 110 0), (12, .d (.int .i64 x.1.2.1))]) (fun x => [(102, .box 26 [.d (.nils), .d (.nils), .d (.nils)]), (104, .box 26 [.d (.nils), .d (.nils), .d (.nils)]), (105, .box 26 [.d (slT enc_api_Decl x3.1), .own 1073, .d (.nils)]), (110, .box 87 [.d (.str x.1.2.2.1), .d (.int .i64 x.1.2.2.2.1), .d (.int .i64 x.1.2.2.2.2.1)]), (1073, .row 45 1 (x.1.2.2.2.2.2.map enc_sl_sl_api_Need))]) (fun x => x.1.1) ⟨(fuel, (0, x5.2.1.S, x5.2.1.At, x5.2.1.Err, ([] : List (List (List T_api_Need))))), H⟩ (Less.mk' ⟨rfl, rfl, rfl, rfl, rfl, rfl, rfl, tv⟩ ⟨rfl, rfl, rfl, rfl, rfl, tv⟩) fun x => ?_))))))))))
 obtain ⟨⟨k9, s8⟩, H⟩ := x
 rcases k9 with _ | k9
 ·exact of_none H
 rw [ref10_Get_l9] at H
 refine Ws (Ws (Wg (Wr 3 tk sg0 rfl rfl tv (Wn (Qn (Wc rfl (fun h10 => ?_) (fun h10 => ?_)))))))
 ·replace H := of_t H h10
  refine Wk (Qn (Ws (Wb (Ws (Wg (Wr 3 tk sg0 rfl rfl tv ?_))))))
  obtain ⟨x11, hx11, H⟩ := of_bind H
  refine Wf [] (ref09_Read_0 _ _ hx11) ref09_Read_f rfl rfl tv rfl rfl rfl (Wr 4 tk sg0 rfl rfl tv (Wa 114 tk rfl rfl rfl (Wr 1 tk sg0 rfl rfl tv (We 0 tk ek eg0 rfl rfl rfl tv (Wr 1 tk sg0 rfl rfl tv (Wn (Qn (Ws (Ws (Wg (Wr 2 tk sg0 rfl rfl tv (Wn (Qn (Wc rfl (fun h12 => ?_) (fun h12 => ?_)))))))))))))))
  ·replace H := of_t H h12
   refine Ws (Wg (Wr 2 tk sg0 rfl rfl tv (We 0 tk ek eg0 rfl rfl rfl tv (Wr 1 tk sg0 rfl rfl tv (Wn (Qn (WC.nilF 102 0 6020 44 3 rfl (WC.row 6020 (([] : List T_api_Decl).map enc_api_Decl) rfl rfl rfl (WC.nilF 102 1 6021 45 1 rfl (WC.row 6021 (([] : List (List (List T_api_Need))).map enc_sl_sl_api_Need) rfl rfl rfl (WC.nilF 102 2 6022 49 3 rfl (WC.row 6022 (([] : List T_api_Func).map enc_api_Func) rfl rfl rfl (WC.freezeT 6020 enc_api_Decl ([] : List T_api_Decl) rfl rfl rfl rfl (WC.freezeT 6021 enc_sl_sl_api_Need ([] : List (List (List T_api_Need))) rfl rfl rfl rfl (WC.freezeT 6022 enc_api_Func ([] : List T_api_Func) rfl rfl rfl rfl (Wt (QT.r (QB.r (QT.r (QT.r (QB.r (QT.r ?_))))))))))))))))))))))
   cases H
   exact Ends.autoC tk rfl rfl rfl tv
  replace H := of_f H h12
  refine Wk (Qn ?_)
  obtain ⟨g17_4_1, H⟩ := of_need H
  refine WC.heldF [(0, .d (.str a0)), (2, .ptr 102 0), (4, .ptr 104 0), (5, .ptr 105 0), (9, .d (.int .i64 x5.1)), (10, .ptr 110 0), (12, .d (.int .i64 s8.1))] [(102, .box 26 [.d (.nils), .d (.nils), .d (.nils)]), (104, .box 26 [.d (.nils), .d (.nils), .d (.nils)]), (105, .box 26 [.d (slT enc_api_Decl x3.1), .own 1073, .d (.nils)]), (110, .box 87 [.d (.str x11.2.1.S), .d (.int .i64 x11.2.1.At), .d (.int .i64 x11.2.1.Err)]), (1073, .row 45 1 ((s8.2.2.2.2 ++ ([x11.1] : List (List (List T_api_Need)))).map enc_sl_sl_api_Need))] (.one 0 true (.one 2 true (.one 5 true (.fork (.one 1 false (.one 3 false (.one 4 false (.one 6 true (.one 7 false (.one 8 false .done)))))) (.one 3 false (.one 1 false (.one 4 false (.one 6 true (.one 7 false (.one 8 false .done)))))))))) [102, 104, 105, 110, 114] [102, 104, 114] rfl (by kernel_rfl) rfl (by kernel_rfl) rfl rfl (fun _ h => h) rfl rfl rfl (fun FK NK wK K => ?_) ?_
  ·refine Hr 3 tk rfl rfl rfl rfl tv (WH.fork ?_ ?_)
   ·refine WH.val tk rfl rfl rfl rfl rfl tv rfl rfl (He 175 tk ek rfl rfl rfl rfl tv rfl rfl (WH.freezeT 175 enc_sl_sl_api_Need ([x11.1] : List (List (List T_api_Need))) rfl rfl rfl rfl (WH.appT enc_sl_sl_api_Need s8.2.2.2.2 ([x11.1] : List (List (List T_api_Need))) tk ek rfl rfl (fun _ => rfl) (fun _ => rfl) rfl rfl rfl rfl rfl (nCap_ok g17_4_1) rfl rfl rfl rfl rfl rfl rfl ?_)))
    exact Hr 1 tk rfl rfl rfl rfl tv (He 0 tk ek rfl rfl rfl rfl tv rfl rfl (He 0 tk ek rfl rfl rfl rfl tv rfl rfl (Hn rfl (LessW.mk' ⟨Ao rfl, Ao rfl, Ao rfl, Ao rfl, Ao rfl, Ao rfl, Ao rfl, tv⟩ ⟨rfl, rfl, rfl, rfl, rfl, tv⟩))))
   ·refine He 175 tk ek rfl rfl rfl rfl tv rfl rfl (WH.freezeT 175 enc_sl_sl_api_Need ([x11.1] : List (List (List T_api_Need))) rfl rfl rfl rfl (WH.val tk rfl rfl rfl rfl rfl tv rfl rfl (WH.appT enc_sl_sl_api_Need s8.2.2.2.2 ([x11.1] : List (List (List T_api_Need))) tk ek rfl rfl (fun _ => rfl) (fun _ => rfl) rfl rfl rfl rfl rfl (nCap_ok g17_4_1) rfl rfl rfl rfl rfl rfl rfl ?_)))
    exact Hr 1 tk rfl rfl rfl rfl tv (He 0 tk ek rfl rfl rfl rfl tv rfl rfl (He 0 tk ek rfl rfl rfl rfl tv rfl rfl (Hn rfl (LessW.mk' ⟨Ao rfl, Ao rfl, Ao rfl, Ao rfl, Ao rfl, Ao rfl, Ao rfl, tv⟩ ⟨rfl, rfl, rfl, rfl, rfl, tv⟩))))
  ·refine Qb (Qn ?_)
   exact Wg (Wr 3 tk sg0 rfl rfl tv (Wn (Qn (⟨⟨(k9, (IntKind.i64.wrap (s8.1 + 1), x11.2.1.S, x11.2.1.At, x11.2.1.Err, s8.2.2.2.2 ++ ([x11.1] : List (List (List T_api_Need))))), H⟩, Nat.lt_succ_self _, Less.mk' ⟨rfl, rfl, rfl, rfl, rfl, rfl, rfl, tv⟩ ⟨rfl, rfl, rfl, rfl, rfl, tv⟩⟩))))
 replace H := of_f H h10
 refine WC.exit (Qx (Qx (Qh (Qn ?_))))
 refine Ws (Wg (Wr 1 tk sg0 rfl rfl tv ?_))
 obtain ⟨x13, hx13, H⟩ := of_bind H
 refine Wf [] (ref10_many_0 _ _ hx13) ref10_many_f rfl rfl tv rfl rfl rfl (Wr 5 tk sg0 rfl rfl tv (We 0 tk ek eg0 rfl rfl rfl tv (Wr 1 tk sg0 rfl rfl tv (Wn (Qn (Ws (Ws (Wg (Wr 2 tk sg0 rfl rfl tv (Wn (Qn (Wc rfl (fun h14 => ?_) (fun h14 => ?_)))))))))))))
 ·replace H := of_t H h14
  refine Ws (Wg (Wr 2 tk sg0 rfl rfl tv (We 0 tk ek eg0 rfl rfl rfl tv (Wr 1 tk sg0 rfl rfl tv (Wn (Qn (WC.nilF 102 0 6020 44 3 rfl (WC.row 6020 (([] : List T_api_Decl).map enc_api_Decl) rfl rfl rfl (WC.nilF 102 1 6021 45 1 rfl (WC.row 6021 (([] : List (List (List T_api_Need))).map enc_sl_sl_api_Need) rfl rfl rfl (WC.nilF 102 2 6022 49 3 rfl (WC.row 6022 (([] : List T_api_Func).map enc_api_Func) rfl rfl rfl (WC.freezeT 6020 enc_api_Decl ([] : List T_api_Decl) rfl rfl rfl rfl (WC.freezeT 6021 enc_sl_sl_api_Need ([] : List (List (List T_api_Need))) rfl rfl rfl rfl (WC.freezeT 6022 enc_api_Func ([] : List T_api_Func) rfl rfl rfl rfl (Wt (QT.r ?_)))))))))))))))))
  cases H
  exact Ends.autoC tk rfl rfl rfl tv
 replace H := of_f H h14
 refine Wk (Qn (Ws (Ws (Wg (Wr 1 tk sg0 rfl rfl tv (Wn (Qn (Wb (WC.nilF 105 2 1105 49 3 rfl (Wl (ι := {x : Nat × (Int × ByteArray × Int × Int × (List T_api_Func)) // ref10_Get_l17 a0 x3 s8 x13 x.1 x.2 = some r}) (fun x => [(0, .d (.str a0)), (2, .ptr 102 0), (4, .ptr 104 0), (5, .ptr 105 0), (9, .d (.int .i64 x13.1)), (10, .ptr 110 0), (16, .d (.int .i64 x.1.2.1))]) (fun x => [(102, .box 26 [.d (.nils), .d (.nils), .d (.nils)]), (104, .box 26 [.d (.nils), .d (.nils), .d (.nils)]), (105, .box 26 [.d (slT enc_api_Decl x3.1), .own 1073, .own 1105]), (110, .box 87 [.d (.str x.1.2.2.1), .d (.int .i64 x.1.2.2.2.1), .d (.int .i64 x.1.2.2.2.2.1)]), (1073, .row 45 1 (s8.2.2.2.2.map enc_sl_sl_api_Need)), (1105, .row 49 3 (x.1.2.2.2.2.2.map enc_api_Func))]) (fun x => x.1.1) ⟨(fuel, (0, x13.2.1.S, x13.2.1.At, x13.2.1.Err, ([] : List T_api_Func))), H⟩ (Less.mk' ⟨rfl, rfl, rfl, rfl, rfl, rfl, rfl, tv⟩ ⟨rfl, rfl, rfl, rfl, rfl, rfl, tv⟩) fun x => ?_))))))))))
 obtain ⟨⟨k17, s16⟩, H⟩ := x
 rcases k17 with _ | k17
 ·exact of_none H
 rw [ref10_Get_l17] at H
 refine Ws (Ws (Wg (Wr 3 tk sg0 rfl rfl tv (Wn (Qn (Wc rfl (fun h18 => ?_) (fun h18 => ?_)))))))
 ·replace H := of_t H h18
  refine Wk (Qn (Ws (Wb (Ws (Wg (Wr 1 tk sg0 rfl rfl tv ?_))))))
  obtain ⟨x19, hx19, H⟩ := of_bind H
  refine Wf [] (ref10_function2_0 _ hx19) ref10_function2_f rfl rfl tv rfl rfl rfl (Wr 4 tk sg0 rfl rfl tv (Wa 117 tk rfl rfl rfl (Wa 118 tk rfl rfl rfl (We 0 tk ek eg0 rfl rfl rfl tv (We 0 tk ek eg0 rfl rfl rfl tv (Wr 1 tk sg0 rfl rfl tv (Wn (Qn (Ws (Ws (Wg (Wr 2 tk sg0 rfl rfl tv (Wn (Qn (Wc rfl (fun h20 => ?_) (fun h20 => ?_))))))))))))))))
  ·replace H := of_t H h20
   refine Ws (Wg (Wr 2 tk sg0 rfl rfl tv (We 0 tk ek eg0 rfl rfl rfl tv (Wr 1 tk sg0 rfl rfl tv (Wn (Qn (WC.nilF 102 0 6020 44 3 rfl (WC.row 6020 (([] : List T_api_Decl).map enc_api_Decl) rfl rfl rfl (WC.nilF 102 1 6021 45 1 rfl (WC.row 6021 (([] : List (List (List T_api_Need))).map enc_sl_sl_api_Need) rfl rfl rfl (WC.nilF 102 2 6022 49 3 rfl (WC.row 6022 (([] : List T_api_Func).map enc_api_Func) rfl rfl rfl (WC.freezeT 6020 enc_api_Decl ([] : List T_api_Decl) rfl rfl rfl rfl (WC.freezeT 6021 enc_sl_sl_api_Need ([] : List (List (List T_api_Need))) rfl rfl rfl rfl (WC.freezeT 6022 enc_api_Func ([] : List T_api_Func) rfl rfl rfl rfl (Wt (QT.r (QB.r (QT.r (QT.r (QB.r (QT.r ?_))))))))))))))))))))))
   cases H
   exact Ends.autoC tk rfl rfl rfl tv
  replace H := of_f H h20
  refine Wk (Qn ?_)
  obtain ⟨g27_4_1, H⟩ := of_need H
  refine WC.heldF [(0, .d (.str a0)), (2, .ptr 102 0), (4, .ptr 104 0), (5, .ptr 105 0), (9, .d (.int .i64 x13.1)), (10, .ptr 110 0), (16, .d (.int .i64 s16.1))] [(102, .box 26 [.d (.nils), .d (.nils), .d (.nils)]), (104, .box 26 [.d (.nils), .d (.nils), .d (.nils)]), (105, .box 26 [.d (slT enc_api_Decl x3.1), .own 1073, .own 1105]), (110, .box 87 [.d (.str x19.2.1.S), .d (.int .i64 x19.2.1.At), .d (.int .i64 x19.2.1.Err)]), (1073, .row 45 1 (s8.2.2.2.2.map enc_sl_sl_api_Need)), (1105, .row 49 3 ((s16.2.2.2.2 ++ ([x19.1] : List T_api_Func)).map enc_api_Func))] (.one 0 true (.one 2 true (.one 5 true (.fork (.one 1 false (.one 3 false (.one 4 false (.one 6 true (.one 7 false (.one 8 false .done)))))) (.one 3 false (.one 1 false (.one 4 false (.one 6 true (.one 7 false (.one 8 false .done)))))))))) [102, 104, 105, 110, 117, 118] [102, 104, 117, 118] rfl (by kernel_rfl) rfl (by kernel_rfl) rfl rfl (fun _ h => h) rfl rfl rfl (fun FK NK wK K => ?_) ?_
  ·refine Hr 3 tk rfl rfl rfl rfl tv (WH.fork ?_ ?_)
   ·refine WH.val tk rfl rfl rfl rfl rfl tv rfl rfl (He 207 tk ek rfl rfl rfl rfl tv rfl rfl (WH.freezeT 207 enc_api_Func ([x19.1] : List T_api_Func) rfl rfl rfl rfl (WH.appT enc_api_Func s16.2.2.2.2 ([x19.1] : List T_api_Func) tk ek rfl rfl (fun _ => rfl) (fun _ => rfl) rfl rfl rfl rfl rfl (nCap_ok g27_4_1) rfl rfl rfl rfl rfl rfl rfl ?_)))
    exact Hr 1 tk rfl rfl rfl rfl tv (He 0 tk ek rfl rfl rfl rfl tv rfl rfl (He 0 tk ek rfl rfl rfl rfl tv rfl rfl (Hn rfl (LessW.mk' ⟨Ao rfl, Ao rfl, Ao rfl, Ao rfl, Ao rfl, Ao rfl, Ao rfl, tv⟩ ⟨rfl, rfl, rfl, rfl, rfl, rfl, tv⟩))))
   ·refine He 207 tk ek rfl rfl rfl rfl tv rfl rfl (WH.freezeT 207 enc_api_Func ([x19.1] : List T_api_Func) rfl rfl rfl rfl (WH.val tk rfl rfl rfl rfl rfl tv rfl rfl (WH.appT enc_api_Func s16.2.2.2.2 ([x19.1] : List T_api_Func) tk ek rfl rfl (fun _ => rfl) (fun _ => rfl) rfl rfl rfl rfl rfl (nCap_ok g27_4_1) rfl rfl rfl rfl rfl rfl rfl ?_)))
    exact Hr 1 tk rfl rfl rfl rfl tv (He 0 tk ek rfl rfl rfl rfl tv rfl rfl (He 0 tk ek rfl rfl rfl rfl tv rfl rfl (Hn rfl (LessW.mk' ⟨Ao rfl, Ao rfl, Ao rfl, Ao rfl, Ao rfl, Ao rfl, Ao rfl, tv⟩ ⟨rfl, rfl, rfl, rfl, rfl, rfl, tv⟩))))
  ·refine Qb (Qn ?_)
   exact Wg (Wr 3 tk sg0 rfl rfl tv (Wn (Qn (⟨⟨(k17, (IntKind.i64.wrap (s16.1 + 1), x19.2.1.S, x19.2.1.At, x19.2.1.Err, s16.2.2.2.2 ++ ([x19.1] : List T_api_Func))), H⟩, Nat.lt_succ_self _, Less.mk' ⟨rfl, rfl, rfl, rfl, rfl, rfl, rfl, tv⟩ ⟨rfl, rfl, rfl, rfl, rfl, rfl, tv⟩⟩))))
 replace H := of_f H h18
 refine WC.exit (Qx (Qx (Qh (Qn ?_))))
 refine Ws (Ws (Wg (Wr 5 tk sg0 rfl rfl tv (Wn (Qn (Wc rfl (fun h21 => ?_) (fun h21 => ?_)))))))
 ·replace H := of_t H h21
  refine Ws (Wg (Wr 1 tk sg0 rfl rfl tv (We 0 tk ek eg0 rfl rfl rfl tv (Wr 1 tk sg0 rfl rfl tv (Wn (Qn (WC.nilF 102 0 6020 44 3 rfl (WC.row 6020 (([] : List T_api_Decl).map enc_api_Decl) rfl rfl rfl (WC.nilF 102 1 6021 45 1 rfl (WC.row 6021 (([] : List (List (List T_api_Need))).map enc_sl_sl_api_Need) rfl rfl rfl (WC.nilF 102 2 6022 49 3 rfl (WC.row 6022 (([] : List T_api_Func).map enc_api_Func) rfl rfl rfl (WC.freezeT 6020 enc_api_Decl ([] : List T_api_Decl) rfl rfl rfl rfl (WC.freezeT 6021 enc_sl_sl_api_Need ([] : List (List (List T_api_Need))) rfl rfl rfl rfl (WC.freezeT 6022 enc_api_Func ([] : List T_api_Func) rfl rfl rfl rfl (Wt (QT.r ?_)))))))))))))))))
  cases H
  exact Ends.autoC tk rfl rfl rfl tv
 replace H := of_f H h21
 refine Wk (Qn (Ws (Ws (Wg (WL.freezeT 1073 enc_sl_sl_api_Need s8.2.2.2.2 rfl rfl rfl rfl (WL.freezeT 1105 enc_api_Func s16.2.2.2.2 rfl rfl rfl rfl (Wr 1 tk sg0 rfl rfl tv ?_)))))))
 obtain ⟨x22, hx22, H⟩ := of_bind H
 refine Wf [] (ref10_Check_0 _ hx22) ref10_Check_f rfl rfl tv rfl rfl rfl (Wr 1 tk sg0 rfl rfl tv (Wn (Qn (Ws (Wg (Wr 2 tk sg0 rfl rfl tv (Wn (Qn (Wc rfl (fun h23 => ?_) (fun h23 => ?_))))))))))
 ·replace H := of_t H h23
  refine Ws (Wg (Wr 2 tk sg0 rfl rfl tv (We 0 tk ek eg0 rfl rfl rfl tv (Wr 1 tk sg0 rfl rfl tv (Wn (Qn (WC.nilF 102 0 6020 44 3 rfl (WC.row 6020 (([] : List T_api_Decl).map enc_api_Decl) rfl rfl rfl (WC.nilF 102 1 6021 45 1 rfl (WC.row 6021 (([] : List (List (List T_api_Need))).map enc_sl_sl_api_Need) rfl rfl rfl (WC.nilF 102 2 6022 49 3 rfl (WC.row 6022 (([] : List T_api_Func).map enc_api_Func) rfl rfl rfl (WC.freezeT 6020 enc_api_Decl ([] : List T_api_Decl) rfl rfl rfl rfl (WC.freezeT 6021 enc_sl_sl_api_Need ([] : List (List (List T_api_Need))) rfl rfl rfl rfl (WC.freezeT 6022 enc_api_Func ([] : List T_api_Func) rfl rfl rfl rfl (Wt (QT.r ?_)))))))))))))))))
  cases H
  exact Ends.autoC tk rfl rfl rfl tv
 replace H := of_f H h23
 refine Wk (Qn (Ws (Wg (Wr 1 tk sg0 rfl rfl tv (We 0 tk ek eg0 rfl rfl rfl tv (Wr 1 tk sg0 rfl rfl tv (Wn (Qn (Wt ?_)))))))))
 cases H
 exact Ends.autoC tk rfl rfl rfl tv
theorem ref10_Get_f : hasFunc Tryd.prog 14 Tryd.f14 := ⟨Tryd.func14, rfl, by kernel_rfl⟩

theorem law10_ProgGets_0 (a0 : ByteArray) {r : Bool} (H : law10_ProgGets a0 = some r) : LJ.Spec Tryd.prog 4 [.d (.str a0)] [] (.d (.bool r)) [] := by
 refine LJ.Spec.code Tryd.func4 rfl 28 rfl rfl [] rfl fun w0 F0 S0 B0 => ?_
 unfold law10_ProgGets at H
 refine Ws (Wg (Wr 1 tk sg0 rfl rfl tv (Wn (Qn (Ws (Wg (Wr 1 tk sg0 rfl rfl tv ?_)))))))
 obtain ⟨x1, hx1, H⟩ := of_bind H
 refine Wf [] (prog_Get_0 _ hx1) prog_Get_f rfl rfl tv rfl rfl rfl (Wr 3 tk sg0 rfl rfl tv (Wa 103 tk rfl rfl rfl (We 0 tk ek eg0 rfl rfl rfl tv (Wr 1 tk sg0 rfl rfl tv (Wn (Qn (Ws (Wg (Wr 1 tk sg0 rfl rfl tv ?_)))))))))
 obtain ⟨x2, hx2, H⟩ := of_bind H
 refine Wf [] (ref10_Get_0 _ hx2) ref10_Get_f rfl rfl tv rfl rfl rfl (Wr 3 tk sg0 rfl rfl tv (Wa 105 tk rfl rfl rfl (We 0 tk ek eg0 rfl rfl rfl tv (Wr 1 tk sg0 rfl rfl tv (Wn (Qn (Ws (Wg (Wr 2 tk sg0 rfl rfl tv ?_)))))))))
 obtain ⟨x3, hx3, H⟩ := of_bind H
 refine Wf [] (ref10_Same_0 _ _ hx3) ref10_Same_f rfl rfl tv rfl rfl rfl (Wr 1 tk sg0 rfl rfl tv (Wx 3 3 true tk sg0 rfl rfl (fun _ => tv) (Wr 2 tk sg0 rfl rfl ⟨by first | exact id | exact fun h => by rw [h]; rfl | simp_all, tv⟩ ?_)))
 obtain ⟨x4, hx4, H⟩ := of_bind H
 refine Wx 1 8 true tk [PSig.at' law10_lives_f ((x3 && (iEq x1.2 x2.2)) = true) rfl (fun hb => law10_lives_0  (of_t hx4 hb))] rfl rfl (fun hb => ⟨⟨hb, rfl⟩, tv⟩) (Wr 2 tk sg0 rfl rfl ⟨by first | exact id | exact fun h => by rw [h]; rfl | simp_all, tv⟩ (Wn (Qn (Wt ?_))))
 cases H
 exact Ea rfl rfl rfl tv

theorem law10_ProgBack_0 (a0 : T_api_Program) (a1 : ByteArray) {r : Bool} (H : law10_ProgBack a0 a1 = some r) : LJ.Spec Tryd.prog 5 [.d (.agg [slT enc_api_Decl a0.Decls, slT enc_sl_sl_api_Need a0.Waits, slT enc_api_Func a0.Funcs]), .d (.str a1)] [] (.d (.bool r)) [] := by
 refine LJ.Spec.code Tryd.func5 rfl 68 rfl rfl [] rfl fun w0 F0 S0 B0 => ?_
 unfold law10_ProgBack at H
 refine Ws (Wg (We 102 tk ek eg0 rfl rfl rfl tv (Wr 1 tk sg0 rfl rfl tv (Wn (Qn (Ws (Ws (Wg (Wr 1 tk sg0 rfl rfl tv ?_)))))))))
 obtain ⟨x1, hx1, H⟩ := of_bind H
 refine Wf [] (ref10_Check_0 _ hx1) ref10_Check_f rfl rfl tv rfl rfl rfl (Wr 1 tk sg0 rfl rfl tv (Wn (Qn (Wc rfl (fun h2 => ?_) (fun h2 => ?_)))))
 ·replace H := of_t H h2
  refine Ws (Wg ?_)
  obtain ⟨x3, hx3, H⟩ := of_bind H
  refine Wf [] (law10_lives_0 hx3) law10_lives_f rfl rfl tv rfl rfl rfl (Wr 1 tk sg0 rfl rfl tv (Wn (Qn (Wt (QT.r ?_)))))
  cases H
  exact Ea rfl rfl rfl tv
 replace H := of_f H h2
 refine Wk (Qn (Ws (Wg (Wr 1 tk sg0 rfl rfl tv ?_))))
 obtain ⟨x4, hx4, H⟩ := of_bind H
 refine Wf [] (law10_Own_0 _ hx4) law10_Own_f rfl rfl tv rfl rfl rfl ?_
 obtain ⟨x5, hx5, H⟩ := of_bind H
 refine Wf [] (prog_Put_0 _ hx5) prog_Put_f rfl rfl tv rfl rfl rfl (Wr 5 tk sg0 rfl rfl tv (Wn (Qn (Ws (Wg (Wr 1 tk sg0 rfl rfl tv ?_))))))
 obtain ⟨x6, hx6, H⟩ := of_bind H
 refine Wf [] (prog_Get_0 _ hx6) prog_Get_f rfl rfl tv rfl rfl rfl (Wr 3 tk sg0 rfl rfl tv (Wa 107 tk rfl rfl rfl (We 0 tk ek eg0 rfl rfl rfl tv (Wr 1 tk sg0 rfl rfl tv (Wn (Qn (Ws (Ws (Wg (Wr 3 tk sg0 rfl rfl tv (Wx 2 2 false tk sg0 rfl rfl (fun _ => tv) (Wr 2 tk sg0 rfl rfl ⟨by first | exact id | exact fun h => by rw [h]; rfl | simp_all, tv⟩ ?_))))))))))))
 obtain ⟨x7, hx7, H⟩ := of_bind H
 refine Wx 4 6 false tk [PSig.at' ref10_Same_f ((!((iNe x5.2 0) || (iNe x6.2 0))) = true) rfl (fun hb => ref10_Same_0 _ _ (of_t hx7 hb))] rfl rfl (fun hb => ⟨⟨hb, rfl⟩, tv⟩) (Wr 1 tk sg0 rfl rfl ⟨by first | exact id | exact fun h => by rw [h]; rfl | simp_all, tv⟩ (Wn (Qn (Wc rfl (fun h8 => ?_) (fun h8 => ?_)))))
 ·replace H := of_t H h8
  refine Ws (Wg (Wr 1 tk sg0 rfl rfl tv (Wn (Qn (Wt (QT.r ?_))))))
  cases H
  exact Ea rfl rfl rfl tv
 replace H := of_f H h8
 refine Wk (Qn (Ws (Wg ?_)))
 obtain ⟨g9, H⟩ := of_need H
 refine Wr 3 tk sg0 rfl rfl ⟨(nStr_ok g9), tv⟩ ?_
 obtain ⟨x10, hx10, H⟩ := of_bind H
 refine Wf [] (prog_Get_0 _ hx10) prog_Get_f rfl rfl tv rfl rfl rfl (Wr 3 tk sg0 rfl rfl tv (Wa 109 tk rfl rfl rfl (We 0 tk ek eg0 rfl rfl rfl tv (Wr 1 tk sg0 rfl rfl tv (Wn (Qn (Ws (Wg ?_))))))))
 obtain ⟨g11, H⟩ := of_need H
 refine Wr 5 tk sg0 rfl rfl ⟨(nTo_ok g11), tv⟩ ?_
 obtain ⟨x12, hx12, H⟩ := of_bind H
 refine Wf [] (prog_Get_0 _ hx12) prog_Get_f rfl rfl tv rfl rfl rfl (Wr 3 tk sg0 rfl rfl tv (Wa 111 tk rfl rfl rfl (We 0 tk ek eg0 rfl rfl rfl tv (Wr 1 tk sg0 rfl rfl tv (Wn (Qn (Ws (Wg (Wr 6 tk sg0 rfl rfl tv (Wx 2 5 true tk sg0 rfl rfl (fun _ => tv) (Wr 2 tk sg0 rfl rfl ⟨by first | exact id | exact fun h => by rw [h]; rfl | simp_all, tv⟩ ?_)))))))))))
 obtain ⟨x13, hx13, H⟩ := of_bind H
 refine Wx 1 9 true tk [PSig.at' law10_lives_f ((((iEq x10.2 0) == (sEq a1 ByteArray.empty)) && (iNe x12.2 0)) = true) rfl (fun hb => law10_lives_0  (of_t hx13 hb))] rfl rfl (fun hb => ⟨⟨hb, rfl⟩, tv⟩) (Wr 2 tk sg0 rfl rfl ⟨by first | exact id | exact fun h => by rw [h]; rfl | simp_all, tv⟩ (Wn (Qn (Wt ?_))))
 cases H
 exact Ea rfl rfl rfl tv

theorem law10_ProgOnce_0 (a0 : ByteArray) {r : Bool} (H : law10_ProgOnce a0 = some r) : LJ.Spec Tryd.prog 6 [.d (.str a0)] [] (.d (.bool r)) [] := by
 refine LJ.Spec.code Tryd.func6 rfl 35 rfl rfl [] rfl fun w0 F0 S0 B0 => ?_
 unfold law10_ProgOnce at H
 refine Ws (Wg (Wr 1 tk sg0 rfl rfl tv (Wn (Qn (Ws (Wg (Wr 1 tk sg0 rfl rfl tv ?_)))))))
 obtain ⟨x1, hx1, H⟩ := of_bind H
 refine Wf [] (prog_Get_0 _ hx1) prog_Get_f rfl rfl tv rfl rfl rfl (Wr 3 tk sg0 rfl rfl tv (Wa 103 tk rfl rfl rfl (We 0 tk ek eg0 rfl rfl rfl tv (Wr 1 tk sg0 rfl rfl tv (Wn (Qn (Ws (Ws (Wg (Wr 2 tk sg0 rfl rfl tv (Wn (Qn (Wc rfl (fun h2 => ?_) (fun h2 => ?_))))))))))))))
 ·replace H := of_t H h2
  refine Ws (Wg (Wr 1 tk sg0 rfl rfl tv (Wr 1 tk sg0 rfl rfl tv (WL.le 15 (.agg [slT enc_api_Decl [], slT enc_sl_sl_api_Need [], slT enc_api_Func []]) rfl (Le.agg (.cons (Le.nilT enc_api_Decl) (.cons (Le.nilT enc_sl_sl_api_Need) (.cons (Le.nilT enc_api_Func) .nil)))) ?_))))
  obtain ⟨x3, hx3, H⟩ := of_bind H
  refine Wf [] (ref10_Same_0 _ _ hx3) ref10_Same_f rfl rfl tv rfl rfl rfl (Wr 1 tk sg0 rfl rfl tv ?_)
  obtain ⟨x4, hx4, H⟩ := of_bind H
  refine Wx 1 3 true tk [PSig.at' law10_lives_f (x3 = true) rfl (fun hb => law10_lives_0  (of_t hx4 hb))] rfl rfl (fun hb => ⟨⟨hb, rfl⟩, tv⟩) (Wr 2 tk sg0 rfl rfl ⟨by first | exact id | exact fun h => by rw [h]; rfl | simp_all, tv⟩ (Wn (Qn (Wt (QT.r ?_)))))
  cases H
  exact Ea rfl rfl rfl tv
 replace H := of_f H h2
 refine Wk (Qn (Ws (Wg (Wr 1 tk sg0 rfl rfl tv ?_))))
 obtain ⟨x5, hx5, H⟩ := of_bind H
 refine Wf [] (prog_Put_0 _ hx5) prog_Put_f rfl rfl tv rfl rfl rfl (Wr 5 tk sg0 rfl rfl tv (Wn (Qn (Ws (Wg (Wr 3 tk sg0 rfl rfl tv (Wx 3 2 true tk sg0 rfl rfl (fun _ => tv) (Wr 2 tk sg0 rfl rfl ⟨by first | exact id | exact fun h => by rw [h]; rfl | simp_all, tv⟩ ?_))))))))
 obtain ⟨x6, hx6, H⟩ := of_bind H
 refine Wx 1 7 true tk [PSig.at' law10_lives_f (((iEq x5.2 0) && (sEq x5.1 a0)) = true) rfl (fun hb => law10_lives_0  (of_t hx6 hb))] rfl rfl (fun hb => ⟨⟨hb, rfl⟩, tv⟩) (Wr 2 tk sg0 rfl rfl ⟨by first | exact id | exact fun h => by rw [h]; rfl | simp_all, tv⟩ (Wn (Qn (Wt ?_))))
 cases H
 exact Ea rfl rfl rfl tv

end Go.Proofs.YtdeekbpniinmbaaDoor.W
