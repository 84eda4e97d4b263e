/- Each Go function comes to what its plain function gives, where that gives something. -/
import Derived.Test.YtdebndfaknfefaaGreatDoorPF
import Derived.Test.YtdebndfaknfefaaGreatDoorSq
import Derived.Test.YtdebndfaknfefaaGreatDoorWF3
import Derived.Test.YtdebndfaknfefaaGreatDoorXByt
import Derived.Test.YtdebndfaknfefaaGreatDoorXDef
import Derived.Test.YtdebndfaknfefaaGreatDoorXPan
import Derived.Test.YtdebndfaknfefaaGreatDoorXShelf
namespace Go.Proofs.YtdebndfaknfefaaGreatDoor.W
open Go Go.RowKit LJ
set_option linter.unusedVariables false
set_option linter.unusedSimpArgs false
set_option maxRecDepth 10000
theorem vi (a0:au) {r:(List ab)×au×Int} (H:je a0=some r):LJ.Spec Tryz.prog 69 [.d (.agg [.str a0.S, .int .i64 a0.At, .int .i64 a0.Err])] [] (.tup [.d (slT ai r.1), .d (.agg [.str r.2.1.S, .int .i64 r.2.1.At, .int .i64 r.2.1.Err]), .d (.int .i64 r.2.2)]) []:=by
 refine LJ.Spec.code Tryz.func69 rfl 119 rfl rfl [] rfl fun w0 F0 S0 B0=>?_
 unfold je at H
 refine G (Ef 101 rfl (R 1 rfl (Wa 103 tk rfl rfl rfl (R 1 rfl (N (R 1 rfl ?_))))))
 obtain ⟨x1,hx1,H⟩:=an H
 refine Cl [] (ij _ hx1) ik rfl tv rfl (R 3 rfl (Wa 106 tk rfl rfl rfl (R 1 rfl (Ef 0 rfl (NS (G (R 3 rfl (NQ (Wd rfl H (fun H=>?_) (fun H=>?_))))))))))
 ·refine Ws (Hp (.one 0 true (.one 1 true (.one 2 true (.one 3 true (.one 4 false (.one 5 true .done)))))) [101,103,106] [101,106] rfl (by kernel_rfl) rfl (by kernel_rfl) rfl rfl (fun _ h=>h) rfl rfl rfl (fun _ _ _ h=>h) fun FK NK wK K=>(Hr 4 tk rfl rfl rfl rfl tv (He 0 tk ek rfl rfl rfl rfl tv rfl rfl (Hr 1 tk rfl rfl rfl rfl tv (WH.nil rfl (Qn (WC.nilT 2 ai rfl (Wt (QT.r ?_)))))))))
  cases H
  exact Ends.autoC tk rfl rfl rfl tv
 refine Wk (Qn (Ws (G (R 2 rfl (NQ (Wd rfl H (fun H=>?_) (fun H=>?_)))))))
 ·refine Ws (Hp (.one 0 true (.one 1 true (.one 2 false (.one 3 true .done)))) [101,103,106] [101,106] rfl (by kernel_rfl) rfl (by kernel_rfl) rfl rfl (fun _ h=>h) rfl rfl rfl (fun _ _ _ h=>h) fun FK NK wK K=>(Hr 2 tk rfl rfl rfl rfl tv (He 0 tk ek rfl rfl rfl rfl tv rfl rfl (Hr 1 tk rfl rfl rfl rfl tv (WH.nil rfl (Qn (WC.nilT 2 ai rfl (Wt (QT.r ?_)))))))))
  cases H
  exact Ends.autoC tk rfl rfl rfl tv
 refine Wk (Qn (G (Ef 134 rfl (R 1 rfl (NS (G (R 1 rfl (NQ (Wb (Wl (ι:= {x:Nat×(Int×ByteArray×Int×Int×(List ab)) //dQ x1 x.1 x.2=some r}) (fun x=>[(3, .ptr 103 0),(5, .d (.int .i64 x1.1)),(6, .ptr 106 0),(7, .own 134),(8, .d (.int .i64 x.1.2.1))]) (fun x=>[(103, .box 83 [.d (.str ByteArray.empty), .d (.int .i64 0), .d (.int .i64 0)]),(106, .box 83 [.d (.str x.1.2.2.1), .d (.int .i64 x.1.2.2.2.1), .d (.int .i64 x.1.2.2.2.2.1)]),(134, .row 93 3 (x.1.2.2.2.2.2.map ai))]) (fun x=>x.1.1) ⟨(fuel,(0,x1.2.S,x1.2.At,x1.2.Err,([]:List ab))),H⟩ (Lm p5 p3) fun x=>?_))))))))))
 obtain ⟨⟨k5,s4⟩,H⟩:=x
 rcases k5 with _ | k5
 ·exact aO H
 rw [dQ] at H
 refine Ws (G (R 3 rfl (NQ (Wd rfl H (fun H=>?_) (fun H=>?_)))))
 ·refine Wk (Qn ?_)
  obtain ⟨K7,hK7,H⟩:=db H
  refine WC.cut (fun E m=>∃ s8:ByteArray×Int×Int×(List ab),K7 s8=some r∧iA E m [(3, .ptr 103 0),(5, .d (.int .i64 x1.1)),(6, .ptr 106 0),(7, .own 134),(8, .d (.int .i64 s4.1))] [(103, .box 83 [.d (.str ByteArray.empty), .d (.int .i64 0), .d (.int .i64 0)]),(106, .box 83 [.d (.str s8.1), .d (.int .i64 s8.2.1), .d (.int .i64 s8.2.2.1)]),(134, .row 93 3 (s8.2.2.2.map ai))]) ?_ ?_
  ·refine Wb (G (R 1 rfl ?_))
   obtain ⟨x9,hx9,H⟩:=an H
   refine Cl [] (iU _ hx9) iV rfl tv rfl (R 3 rfl (Wa 110 tk rfl rfl rfl (R 1 rfl (Ef 0 rfl (NS (G (R 4 rfl (Wx 3 3 true tk sg0 rfl rfl (fun _=>tv) (Wx 2 6 false tk sg0 rfl rfl (fun _=>tv) (Wx 1 3 true tk sg0 rfl rfl (fun hb=>⟨by first | exact id | exact ⟨hb,fun h=>by rw [hb,h];rfl⟩ | exact ⟨hb,id⟩ | exact fun h=>by rw [hb,h];rfl | exact fun h=>by rw [h];rfl | simp_all,tv⟩) (RS 1 rfl ⟨by first | exact id | exact fun h=>by rw [h];rfl | simp_all,tv⟩ ?_)))))))))))
   refine NQ (Wd rfl H (fun H=>?_) (fun H=>?_))
   ·refine Ws (Hp (.one 0 true (.one 1 true (.one 2 false (.one 3 true .done)))) [103,106,110] [106,110] rfl (by kernel_rfl) rfl (by kernel_rfl) rfl rfl (fun _ h=>h) rfl rfl rfl (fun _ _ _ h=>h) fun FK NK wK K=>(Hr 2 tk rfl rfl rfl rfl tv (He 0 tk ek rfl rfl rfl rfl tv rfl rfl (Hr 1 tk rfl rfl rfl rfl tv (WH.nil rfl (Qn (WC.nilT 2 ai rfl (Wt (QT.r (QB.r (QT.r (QT.r (QB.r (QT.r ?_))))))))))))))
    cases H
    exact Ends.autoC tk rfl rfl rfl tv
   refine Wk (Qn (G (R 2 rfl (Wa 111 tk rfl rfl rfl (Ef 0 rfl (NS (G (R 3 rfl (Wx 2 2 false tk sg0 rfl rfl (fun _=>tv) (RS 1 rfl ⟨by first | exact id | exact fun h=>by rw [h];rfl | simp_all,tv⟩ (NQ (Wd rfl H (fun H=>?_) (fun H=>?_)))))))))))))
   ·refine G (R 1 rfl ?_)
    obtain ⟨x12,hx12,H⟩:=an H
    refine Cl [] (ij _ hx12) ik rfl tv rfl (R 3 rfl (Wa 113 tk rfl rfl rfl (R 1 rfl (Ef 0 rfl (NQ (Hp (.one 0 true (.one 1 true (.one 2 true (.one 3 false (.one 4 false .done))))) [103,106,110,111,113] [103,106,113] rfl (by kernel_rfl) rfl (by kernel_rfl) rfl rfl (fun _ h=>h) rfl rfl rfl (fun _ _ _ h=>h) fun FK NK wK K=>(Hr 3 tk rfl rfl rfl rfl tv (He 0 tk ek rfl rfl rfl rfl tv rfl rfl (He 0 tk ek rfl rfl rfl rfl tv rfl rfl (WH.nil rfl (Qn (Ws (G (R 2 rfl (NQ (Wd rfl H (fun H=>?_) (fun H=>?_)))))))))))))))))
    ·refine G (R 1 rfl ?_)
     obtain ⟨x14,hx14,H⟩:=an H
     refine Cl [] (fP _ hx14) fQ rfl tv rfl (R 3 rfl (Wa 115 tk rfl rfl rfl (R 1 rfl (Ef 0 rfl (NQ (Hp (.one 0 true (.one 1 true (.one 2 true (.one 3 false (.one 4 false .done))))) [103,106,110,111,113,115] [103,106,113,115] rfl (by kernel_rfl) rfl (by kernel_rfl) rfl rfl (fun _ h=>h) rfl rfl rfl (fun _ _ _ h=>h) fun FK NK wK K=>(Hr 3 tk rfl rfl rfl rfl tv (He 0 tk ek rfl rfl rfl rfl tv rfl rfl (He 0 tk ek rfl rfl rfl rfl tv rfl rfl (WH.nil rfl (Qn (Ws (G (R 3 rfl (Wx 2 2 false tk sg0 rfl rfl (fun _=>tv) ?_)))))))))))))))
     refine RS 1 rfl ⟨by first | exact id | exact fun h=>by rw [h];rfl | simp_all,tv⟩ (NQ (Wd rfl H (fun H=>?_) (fun H=>?_)))
     ·refine G (R 1 rfl ?_)
      obtain ⟨x16,hx16,H⟩:=an H
      refine Cl [] (ij _ hx16) ik rfl tv rfl (R 3 rfl (Wa 117 tk rfl rfl rfl (R 1 rfl (Ef 0 rfl (NQ (Hp (.one 0 true (.one 1 true (.one 2 true (.one 3 false (.one 4 false .done))))) [103,106,110,111,113,115,117] [103,106,113,115,117] rfl (by kernel_rfl) rfl (by kernel_rfl) rfl rfl (fun _ h=>h) rfl rfl rfl (fun _ _ _ h=>h) fun FK NK wK K=>(Hr 3 tk rfl rfl rfl rfl tv (He 0 tk ek rfl rfl rfl rfl tv rfl rfl (He 0 tk ek rfl rfl rfl rfl tv rfl rfl (WH.nil rfl (Qn (Ws (G (R 3 rfl (NQ (Wd rfl H (fun H=>?_) (fun H=>?_)))))))))))))))))
      ·refine Ws (Hp (.one 0 true (.one 1 true (.one 2 true (.one 3 true (.one 4 false (.one 5 true .done)))))) [103,106,110,111,113,115,117] [106,110,111,113,115,117] rfl (by kernel_rfl) rfl (by kernel_rfl) rfl rfl (fun _ h=>h) rfl rfl rfl (fun _ _ _ h=>h) fun FK NK wK K=>(Hr 4 tk rfl rfl rfl rfl tv (He 0 tk ek rfl rfl rfl rfl tv rfl rfl (Hr 1 tk rfl rfl rfl rfl tv (WH.nil rfl (Qn (WC.nilT 2 ai rfl (Wt (QT.r (QB.r (QT.r (QT.r (QB.r (QT.r ?_))))))))))))))
       cases H
       exact Ends.autoC tk rfl rfl rfl tv
      refine Wk (Qn (Hp (.one 0 true (.one 1 true (.one 4 true (.one 2 false (.one 3 false (.one 5 true (.one 6 false .done))))))) [103,106,110,111,113,115,117] [103,110,111,113,115,117] rfl (by kernel_rfl) rfl (by kernel_rfl) rfl rfl (fun _ h=>h) rfl rfl rfl (fun _ _ _ h=>h) fun FK NK wK K=>(WH.mv rfl rfl rfl rfl rfl rfl rfl rfl rfl (Hr 2 tk rfl rfl rfl rfl tv (He 205 tk ek rfl rfl rfl rfl tv rfl rfl (WH.freezeT 205 ai ([(⟨x9.1,x14.1,x16.1⟩:ab)]:List ab) rfl rfl rfl rfl ?_))))))
      obtain ⟨g18,H⟩:=ay H
      refine WH.appT ai s4.2.2.2.2 ([(⟨x9.1,x14.1,x16.1⟩:ab)]:List ab) tk ek rfl rfl (fun _=>rfl) (fun _=>rfl) rfl rfl rfl rfl rfl (bQ g18) rfl rfl rfl rfl rfl rfl rfl ?_
      refine WH.mv rfl rfl rfl rfl rfl rfl rfl rfl rfl (He 0 tk ek rfl rfl rfl rfl tv rfl rfl (WH.nil rfl (Qb (Qn ?_))))
      exact ⟨(x16.2.S,x16.2.At,x16.2.Err,s4.2.2.2.2++([(⟨x9.1,x14.1,x16.1⟩:ab)]:List ab)),H,Lw q5 p3⟩
     refine Wk (Qn (Ws (G (R 3 rfl (NQ (Wd rfl H (fun H=>?_) (fun H=>?_)))))))
     ·refine Ws (Hp (.one 0 true (.one 1 true (.one 2 true (.one 3 true (.one 4 false (.one 5 true .done)))))) [103,106,110,111,113,115] [106,110,111,113,115] rfl (by kernel_rfl) rfl (by kernel_rfl) rfl rfl (fun _ h=>h) rfl rfl rfl (fun _ _ _ h=>h) fun FK NK wK K=>(Hr 4 tk rfl rfl rfl rfl tv (He 0 tk ek rfl rfl rfl rfl tv rfl rfl (Hr 1 tk rfl rfl rfl rfl tv (WH.nil rfl (Qn (WC.nilT 2 ai rfl (Wt (QT.r (QB.r (QT.r (QT.r (QB.r (QT.r ?_))))))))))))))
      cases H
      exact Ends.autoC tk rfl rfl rfl tv
     refine Wk (Qn (Hp (.one 0 true (.one 1 true (.one 4 true (.one 2 false (.one 3 false (.one 5 true (.one 6 false .done))))))) [103,106,110,111,113,115] [103,110,111,113,115] rfl (by kernel_rfl) rfl (by kernel_rfl) rfl rfl (fun _ h=>h) rfl rfl rfl (fun _ _ _ h=>h) fun FK NK wK K=>(WH.mv rfl rfl rfl rfl rfl rfl rfl rfl rfl (Hr 2 tk rfl rfl rfl rfl tv (He 205 tk ek rfl rfl rfl rfl tv rfl rfl (WH.freezeT 205 ai ([(⟨x9.1,x14.1,0⟩:ab)]:List ab) rfl rfl rfl rfl ?_))))))
     obtain ⟨g20,H⟩:=ay H
     refine WH.appT ai s4.2.2.2.2 ([(⟨x9.1,x14.1,0⟩:ab)]:List ab) tk ek rfl rfl (fun _=>rfl) (fun _=>rfl) rfl rfl rfl rfl rfl (bQ g20) rfl rfl rfl rfl rfl rfl rfl ?_
     refine WH.mv rfl rfl rfl rfl rfl rfl rfl rfl rfl (He 0 tk ek rfl rfl rfl rfl tv rfl rfl (WH.nil rfl (Qb (Qn ?_))))
     exact ⟨(x14.2.S,x14.2.At,x14.2.Err,s4.2.2.2.2++([(⟨x9.1,x14.1,0⟩:ab)]:List ab)),H,Lw q5 p3⟩
    refine Wk (Qn (Ws (G (R 3 rfl (Wx 2 2 false tk sg0 rfl rfl (fun _=>tv) (RS 1 rfl ⟨by first | exact id | exact fun h=>by rw [h];rfl | simp_all,tv⟩ (NQ (Wd rfl H (fun H=>?_) (fun H=>?_)))))))))
    ·refine G (R 1 rfl ?_)
     obtain ⟨x22,hx22,H⟩:=an H
     refine Cl [] (ij _ hx22) ik rfl tv rfl (R 3 rfl (Wa 117 tk rfl rfl rfl (R 1 rfl (Ef 0 rfl (NQ (Hp (.one 0 true (.one 1 true (.one 2 true (.one 3 false (.one 4 false .done))))) [103,106,110,111,113,117] [103,106,113,117] rfl (by kernel_rfl) rfl (by kernel_rfl) rfl rfl (fun _ h=>h) rfl rfl rfl (fun _ _ _ h=>h) fun FK NK wK K=>(Hr 3 tk rfl rfl rfl rfl tv (He 0 tk ek rfl rfl rfl rfl tv rfl rfl (He 0 tk ek rfl rfl rfl rfl tv rfl rfl (WH.nil rfl (Qn (Ws (G (R 3 rfl (NQ (Wd rfl H (fun H=>?_) (fun H=>?_)))))))))))))))))
     ·refine Ws (Hp (.one 0 true (.one 1 true (.one 2 true (.one 3 true (.one 4 false (.one 5 true .done)))))) [103,106,110,111,113,117] [106,110,111,113,117] rfl (by kernel_rfl) rfl (by kernel_rfl) rfl rfl (fun _ h=>h) rfl rfl rfl (fun _ _ _ h=>h) fun FK NK wK K=>(Hr 4 tk rfl rfl rfl rfl tv (He 0 tk ek rfl rfl rfl rfl tv rfl rfl (Hr 1 tk rfl rfl rfl rfl tv (WH.nil rfl (Qn (WC.nilT 2 ai rfl (Wt (QT.r (QB.r (QT.r (QT.r (QB.r (QT.r ?_))))))))))))))
      cases H
      exact Ends.autoC tk rfl rfl rfl tv
     refine Wk (Qn (Hp (.one 0 true (.one 1 true (.one 4 true (.one 2 false (.one 3 false (.one 5 true (.one 6 false .done))))))) [103,106,110,111,113,117] [103,110,111,113,117] rfl (by kernel_rfl) rfl (by kernel_rfl) rfl rfl (fun _ h=>h) rfl rfl rfl (fun _ _ _ h=>h) fun FK NK wK K=>(WH.mv rfl rfl rfl rfl rfl rfl rfl rfl rfl (Hr 2 tk rfl rfl rfl rfl tv (He 205 tk ek rfl rfl rfl rfl tv rfl rfl (WH.freezeT 205 ai ([(⟨x9.1,x12.1,x22.1⟩:ab)]:List ab) rfl rfl rfl rfl ?_))))))
     obtain ⟨g24,H⟩:=ay H
     refine WH.appT ai s4.2.2.2.2 ([(⟨x9.1,x12.1,x22.1⟩:ab)]:List ab) tk ek rfl rfl (fun _=>rfl) (fun _=>rfl) rfl rfl rfl rfl rfl (bQ g24) rfl rfl rfl rfl rfl rfl rfl ?_
     refine WH.mv rfl rfl rfl rfl rfl rfl rfl rfl rfl (He 0 tk ek rfl rfl rfl rfl tv rfl rfl (WH.nil rfl (Qb (Qn ?_))))
     exact ⟨(x22.2.S,x22.2.At,x22.2.Err,s4.2.2.2.2++([(⟨x9.1,x12.1,x22.1⟩:ab)]:List ab)),H,Lw q5 p3⟩
    refine Wk (Qn (Ws (G (R 3 rfl (NQ (Wd rfl H (fun H=>?_) (fun H=>?_)))))))
    ·refine Ws (Hp (.one 0 true (.one 1 true (.one 2 true (.one 3 true (.one 4 false (.one 5 true .done)))))) [103,106,110,111,113] [106,110,111,113] rfl (by kernel_rfl) rfl (by kernel_rfl) rfl rfl (fun _ h=>h) rfl rfl rfl (fun _ _ _ h=>h) fun FK NK wK K=>(Hr 4 tk rfl rfl rfl rfl tv (He 0 tk ek rfl rfl rfl rfl tv rfl rfl (Hr 1 tk rfl rfl rfl rfl tv (WH.nil rfl (Qn (WC.nilT 2 ai rfl (Wt (QT.r (QB.r (QT.r (QT.r (QB.r (QT.r ?_))))))))))))))
     cases H
     exact Ends.autoC tk rfl rfl rfl tv
    refine Wk (Qn (Hp (.one 0 true (.one 1 true (.one 4 true (.one 2 false (.one 3 false (.one 5 true (.one 6 false .done))))))) [103,106,110,111,113] [103,110,111,113] rfl (by kernel_rfl) rfl (by kernel_rfl) rfl rfl (fun _ h=>h) rfl rfl rfl (fun _ _ _ h=>h) fun FK NK wK K=>(WH.mv rfl rfl rfl rfl rfl rfl rfl rfl rfl (Hr 2 tk rfl rfl rfl rfl tv (He 205 tk ek rfl rfl rfl rfl tv rfl rfl (WH.freezeT 205 ai ([(⟨x9.1,x12.1,0⟩:ab)]:List ab) rfl rfl rfl rfl ?_))))))
    obtain ⟨g26,H⟩:=ay H
    refine WH.appT ai s4.2.2.2.2 ([(⟨x9.1,x12.1,0⟩:ab)]:List ab) tk ek rfl rfl (fun _=>rfl) (fun _=>rfl) rfl rfl rfl rfl rfl (bQ g26) rfl rfl rfl rfl rfl rfl rfl ?_
    refine WH.mv rfl rfl rfl rfl rfl rfl rfl rfl rfl (He 0 tk ek rfl rfl rfl rfl tv rfl rfl (WH.nil rfl (Qb (Qn ?_))))
    exact ⟨(x12.2.S,x12.2.At,x12.2.Err,s4.2.2.2.2++([(⟨x9.1,x12.1,0⟩:ab)]:List ab)),H,Lw q5 p3⟩
   refine Wk (Qn (Ws (G (R 2 rfl (NQ (Wd rfl H (fun H=>?_) (fun H=>?_)))))))
   ·refine G (R 1 rfl ?_)
    obtain ⟨x28,hx28,H⟩:=an H
    refine Cl [] (fP _ hx28) fQ rfl tv rfl (R 3 rfl (Wa 115 tk rfl rfl rfl (R 1 rfl (Ef 0 rfl (NQ (Hp (.one 0 true (.one 1 true (.one 2 true (.one 3 false (.one 4 false .done))))) [103,106,110,111,115] [103,106,115] rfl (by kernel_rfl) rfl (by kernel_rfl) rfl rfl (fun _ h=>h) rfl rfl rfl (fun _ _ _ h=>h) fun FK NK wK K=>(Hr 3 tk rfl rfl rfl rfl tv (He 0 tk ek rfl rfl rfl rfl tv rfl rfl (He 0 tk ek rfl rfl rfl rfl tv rfl rfl (WH.nil rfl (Qn (Ws (G (R 3 rfl (Wx 2 2 false tk sg0 rfl rfl (fun _=>tv) ?_)))))))))))))))
    refine RS 1 rfl ⟨by first | exact id | exact fun h=>by rw [h];rfl | simp_all,tv⟩ (NQ (Wd rfl H (fun H=>?_) (fun H=>?_)))
    ·refine G (R 1 rfl ?_)
     obtain ⟨x30,hx30,H⟩:=an H
     refine Cl [] (ij _ hx30) ik rfl tv rfl (R 3 rfl (Wa 117 tk rfl rfl rfl (R 1 rfl (Ef 0 rfl (NQ (Hp (.one 0 true (.one 1 true (.one 2 true (.one 3 false (.one 4 false .done))))) [103,106,110,111,115,117] [103,106,115,117] rfl (by kernel_rfl) rfl (by kernel_rfl) rfl rfl (fun _ h=>h) rfl rfl rfl (fun _ _ _ h=>h) fun FK NK wK K=>(Hr 3 tk rfl rfl rfl rfl tv (He 0 tk ek rfl rfl rfl rfl tv rfl rfl (He 0 tk ek rfl rfl rfl rfl tv rfl rfl (WH.nil rfl (Qn (Ws (G (R 3 rfl (NQ (Wd rfl H (fun H=>?_) (fun H=>?_)))))))))))))))))
     ·refine Ws (Hp (.one 0 true (.one 1 true (.one 2 true (.one 3 true (.one 4 false (.one 5 true .done)))))) [103,106,110,111,115,117] [106,110,111,115,117] rfl (by kernel_rfl) rfl (by kernel_rfl) rfl rfl (fun _ h=>h) rfl rfl rfl (fun _ _ _ h=>h) fun FK NK wK K=>(Hr 4 tk rfl rfl rfl rfl tv (He 0 tk ek rfl rfl rfl rfl tv rfl rfl (Hr 1 tk rfl rfl rfl rfl tv (WH.nil rfl (Qn (WC.nilT 2 ai rfl (Wt (QT.r (QB.r (QT.r (QT.r (QB.r (QT.r ?_))))))))))))))
      cases H
      exact Ends.autoC tk rfl rfl rfl tv
     refine Wk (Qn (Hp (.one 0 true (.one 1 true (.one 4 true (.one 2 false (.one 3 false (.one 5 true (.one 6 false .done))))))) [103,106,110,111,115,117] [103,110,111,115,117] rfl (by kernel_rfl) rfl (by kernel_rfl) rfl rfl (fun _ h=>h) rfl rfl rfl (fun _ _ _ h=>h) fun FK NK wK K=>(WH.mv rfl rfl rfl rfl rfl rfl rfl rfl rfl (Hr 2 tk rfl rfl rfl rfl tv (He 205 tk ek rfl rfl rfl rfl tv rfl rfl (WH.freezeT 205 ai ([(⟨x9.1,x28.1,x30.1⟩:ab)]:List ab) rfl rfl rfl rfl ?_))))))
     obtain ⟨g32,H⟩:=ay H
     refine WH.appT ai s4.2.2.2.2 ([(⟨x9.1,x28.1,x30.1⟩:ab)]:List ab) tk ek rfl rfl (fun _=>rfl) (fun _=>rfl) rfl rfl rfl rfl rfl (bQ g32) rfl rfl rfl rfl rfl rfl rfl ?_
     refine WH.mv rfl rfl rfl rfl rfl rfl rfl rfl rfl (He 0 tk ek rfl rfl rfl rfl tv rfl rfl (WH.nil rfl (Qb (Qn ?_))))
     exact ⟨(x30.2.S,x30.2.At,x30.2.Err,s4.2.2.2.2++([(⟨x9.1,x28.1,x30.1⟩:ab)]:List ab)),H,Lw q5 p3⟩
    refine Wk (Qn (Ws (G (R 3 rfl (NQ (Wd rfl H (fun H=>?_) (fun H=>?_)))))))
    ·refine Ws (Hp (.one 0 true (.one 1 true (.one 2 true (.one 3 true (.one 4 false (.one 5 true .done)))))) [103,106,110,111,115] [106,110,111,115] rfl (by kernel_rfl) rfl (by kernel_rfl) rfl rfl (fun _ h=>h) rfl rfl rfl (fun _ _ _ h=>h) fun FK NK wK K=>(Hr 4 tk rfl rfl rfl rfl tv (He 0 tk ek rfl rfl rfl rfl tv rfl rfl (Hr 1 tk rfl rfl rfl rfl tv (WH.nil rfl (Qn (WC.nilT 2 ai rfl (Wt (QT.r (QB.r (QT.r (QT.r (QB.r (QT.r ?_))))))))))))))
     cases H
     exact Ends.autoC tk rfl rfl rfl tv
    refine Wk (Qn (Hp (.one 0 true (.one 1 true (.one 4 true (.one 2 false (.one 3 false (.one 5 true (.one 6 false .done))))))) [103,106,110,111,115] [103,110,111,115] rfl (by kernel_rfl) rfl (by kernel_rfl) rfl rfl (fun _ h=>h) rfl rfl rfl (fun _ _ _ h=>h) fun FK NK wK K=>(WH.mv rfl rfl rfl rfl rfl rfl rfl rfl rfl (Hr 2 tk rfl rfl rfl rfl tv (He 205 tk ek rfl rfl rfl rfl tv rfl rfl (WH.freezeT 205 ai ([(⟨x9.1,x28.1,0⟩:ab)]:List ab) rfl rfl rfl rfl ?_))))))
    obtain ⟨g34,H⟩:=ay H
    refine WH.appT ai s4.2.2.2.2 ([(⟨x9.1,x28.1,0⟩:ab)]:List ab) tk ek rfl rfl (fun _=>rfl) (fun _=>rfl) rfl rfl rfl rfl rfl (bQ g34) rfl rfl rfl rfl rfl rfl rfl ?_
    refine WH.mv rfl rfl rfl rfl rfl rfl rfl rfl rfl (He 0 tk ek rfl rfl rfl rfl tv rfl rfl (WH.nil rfl (Qb (Qn ?_))))
    exact ⟨(x28.2.S,x28.2.At,x28.2.Err,s4.2.2.2.2++([(⟨x9.1,x28.1,0⟩:ab)]:List ab)),H,Lw q5 p3⟩
   refine Wk (Qn (Ws (G (R 3 rfl (Wx 2 2 false tk sg0 rfl rfl (fun _=>tv) (RS 1 rfl ⟨by first | exact id | exact fun h=>by rw [h];rfl | simp_all,tv⟩ (NQ (Wd rfl H (fun H=>?_) (fun H=>?_)))))))))
   ·refine G (R 1 rfl ?_)
    obtain ⟨x36,hx36,H⟩:=an H
    refine Cl [] (ij _ hx36) ik rfl tv rfl (R 3 rfl (Wa 117 tk rfl rfl rfl (R 1 rfl (Ef 0 rfl (NQ (Hp (.one 0 true (.one 1 true (.one 2 true (.one 3 false (.one 4 false .done))))) [103,106,110,111,117] [103,106,117] rfl (by kernel_rfl) rfl (by kernel_rfl) rfl rfl (fun _ h=>h) rfl rfl rfl (fun _ _ _ h=>h) fun FK NK wK K=>(Hr 3 tk rfl rfl rfl rfl tv (He 0 tk ek rfl rfl rfl rfl tv rfl rfl (He 0 tk ek rfl rfl rfl rfl tv rfl rfl (WH.nil rfl (Qn (Ws (G (R 3 rfl (NQ (Wd rfl H (fun H=>?_) (fun H=>?_)))))))))))))))))
    ·refine Ws (Hp (.one 0 true (.one 1 true (.one 2 true (.one 3 true (.one 4 false (.one 5 true .done)))))) [103,106,110,111,117] [106,110,111,117] rfl (by kernel_rfl) rfl (by kernel_rfl) rfl rfl (fun _ h=>h) rfl rfl rfl (fun _ _ _ h=>h) fun FK NK wK K=>(Hr 4 tk rfl rfl rfl rfl tv (He 0 tk ek rfl rfl rfl rfl tv rfl rfl (Hr 1 tk rfl rfl rfl rfl tv (WH.nil rfl (Qn (WC.nilT 2 ai rfl (Wt (QT.r (QB.r (QT.r (QT.r (QB.r (QT.r ?_))))))))))))))
     cases H
     exact Ends.autoC tk rfl rfl rfl tv
    refine Wk (Qn (Hp (.one 0 true (.one 1 true (.one 4 true (.one 2 false (.one 3 false (.one 5 true (.one 6 false .done))))))) [103,106,110,111,117] [103,110,111,117] rfl (by kernel_rfl) rfl (by kernel_rfl) rfl rfl (fun _ h=>h) rfl rfl rfl (fun _ _ _ h=>h) fun FK NK wK K=>(WH.mv rfl rfl rfl rfl rfl rfl rfl rfl rfl (Hr 2 tk rfl rfl rfl rfl tv (He 205 tk ek rfl rfl rfl rfl tv rfl rfl (WH.freezeT 205 ai ([(⟨x9.1,0,x36.1⟩:ab)]:List ab) rfl rfl rfl rfl ?_))))))
    obtain ⟨g38,H⟩:=ay H
    refine WH.appT ai s4.2.2.2.2 ([(⟨x9.1,0,x36.1⟩:ab)]:List ab) tk ek rfl rfl (fun _=>rfl) (fun _=>rfl) rfl rfl rfl rfl rfl (bQ g38) rfl rfl rfl rfl rfl rfl rfl ?_
    refine WH.mv rfl rfl rfl rfl rfl rfl rfl rfl rfl (He 0 tk ek rfl rfl rfl rfl tv rfl rfl (WH.nil rfl (Qb (Qn ?_))))
    exact ⟨(x36.2.S,x36.2.At,x36.2.Err,s4.2.2.2.2++([(⟨x9.1,0,x36.1⟩:ab)]:List ab)),H,Lw q5 p3⟩
   refine Wk (Qn (Ws (G (R 3 rfl (NQ (Wd rfl H (fun H=>?_) (fun H=>?_)))))))
   ·refine Ws (Hp (.one 0 true (.one 1 true (.one 2 true (.one 3 true (.one 4 false (.one 5 true .done)))))) [103,106,110,111] [106,110,111] rfl (by kernel_rfl) rfl (by kernel_rfl) rfl rfl (fun _ h=>h) rfl rfl rfl (fun _ _ _ h=>h) fun FK NK wK K=>(Hr 4 tk rfl rfl rfl rfl tv (He 0 tk ek rfl rfl rfl rfl tv rfl rfl (Hr 1 tk rfl rfl rfl rfl tv (WH.nil rfl (Qn (WC.nilT 2 ai rfl (Wt (QT.r (QB.r (QT.r (QT.r (QB.r (QT.r ?_))))))))))))))
    cases H
    exact Ends.autoC tk rfl rfl rfl tv
   refine Wk (Qn (Hp (.one 0 true (.one 1 true (.one 4 true (.one 2 false (.one 3 false (.one 5 true (.one 6 false .done))))))) [103,106,110,111] [103,110,111] rfl (by kernel_rfl) rfl (by kernel_rfl) rfl rfl (fun _ h=>h) rfl rfl rfl (fun _ _ _ h=>h) fun FK NK wK K=>(WH.mv rfl rfl rfl rfl rfl rfl rfl rfl rfl (Hr 2 tk rfl rfl rfl rfl tv (He 205 tk ek rfl rfl rfl rfl tv rfl rfl (WH.freezeT 205 ai ([(⟨x9.1,0,0⟩:ab)]:List ab) rfl rfl rfl rfl ?_))))))
   obtain ⟨g40,H⟩:=ay H
   refine WH.appT ai s4.2.2.2.2 ([(⟨x9.1,0,0⟩:ab)]:List ab) tk ek rfl rfl (fun _=>rfl) (fun _=>rfl) rfl rfl rfl rfl rfl (bQ g40) rfl rfl rfl rfl rfl rfl rfl ?_
   refine WH.mv rfl rfl rfl rfl rfl rfl rfl rfl rfl (He 0 tk ek rfl rfl rfl rfl tv rfl rfl (WH.nil rfl (Qb (Qn ?_))))
   exact ⟨(x9.2.S,x9.2.At,x9.2.Err,s4.2.2.2.2++([(⟨x9.1,0,0⟩:ab)]:List ab)),H,Lw q5 p3⟩
  ·rintro E m ⟨s8,H,hl⟩
   refine WC.lessW hl ?_
   replace H:=(hK7 _).symm.trans H
   try dsimp only at H
   exact Wg (R 3 rfl (NQ (⟨⟨(k5,(IntKind.i64.wrap (s4.1+1),s8.1,s8.2.1,s8.2.2.1,s8.2.2.2)),H⟩,Z,Lm p5 p3⟩)))
 refine WC.exit (Qx (Qx (Qh (Qn ?_))))
 refine Ws (G (R 1 rfl (WL.freezeT 134 ai s4.2.2.2.2 rfl rfl rfl rfl ?_)))
 obtain ⟨x41,hx41,H⟩:=an H
 refine Cl [] (nG _ hx41) nH rfl tv rfl (R 5 rfl (N (R 2 rfl (NQ (Wd rfl H (fun H=>?_) (fun H=>?_))))))
 ·refine Ws (Hp (.one 0 true (.one 1 true (.one 2 true (.one 3 false (.one 4 true .done))))) [103,106] [106] rfl (by kernel_rfl) rfl (by kernel_rfl) rfl rfl (fun _ h=>h) rfl rfl rfl (fun _ _ _ h=>h) fun FK NK wK K=>(Hr 3 tk rfl rfl rfl rfl tv (He 0 tk ek rfl rfl rfl rfl tv rfl rfl (Hr 1 tk rfl rfl rfl rfl tv (WH.nil rfl (Qn (WC.nilT 2 ai rfl (Wt (QT.r ?_)))))))))
  cases H
  exact Ends.autoC tk rfl rfl rfl tv
 refine Wk (Qn (Ws (Hp (.one 0 true (.one 1 true (.one 2 true (.one 3 false (.one 4 true .done))))) [103,106] [106] rfl (by kernel_rfl) rfl (by kernel_rfl) rfl rfl (fun _ h=>h) rfl rfl rfl (fun _ _ _ h=>h) fun FK NK wK K=>(Hr 3 tk rfl rfl rfl rfl tv (He 0 tk ek rfl rfl rfl rfl tv rfl rfl (Hr 1 tk rfl rfl rfl rfl tv (WH.nil rfl (Qn (Wt ?_)))))))))
 cases H
 exact Ends.autoC tk rfl rfl rfl tv
theorem vj:aF Tryz.prog 69 Tryz.f69:=⟨Tryz.func69,rfl,by kernel_rfl⟩
theorem lN (a0:au) (a1:Int) {r:Int×au×Int} (H:fC a0 a1=some r):LJ.Spec Tryz.prog 70 [.d (.agg [.str a0.S, .int .i64 a0.At, .int .i64 a0.Err]), .d (.int .u64 a1)] [] (.tup [.d (.int .i64 r.1), .d (.agg [.str r.2.1.S, .int .i64 r.2.1.At, .int .i64 r.2.1.Err]), .d (.int .i64 r.2.2)]) []:=by
 refine LJ.Spec.code Tryz.func70 rfl 23 rfl rfl [] rfl fun w0 F0 S0 B0=>?_
 unfold fC at H
 refine G (Ef 102 rfl (R 1 rfl (Wa 105 tk rfl rfl rfl (R 1 rfl (N (R 1 rfl ?_))))))
 obtain ⟨x1,hx1,H⟩:=an H
 refine Cl [] (bW _ hx1) bX rfl tv rfl (R 3 rfl (Wa 108 tk rfl rfl rfl (R 1 rfl (Ef 0 rfl (NS (G (R 3 rfl (NQ (Wd rfl H (fun H=>?_) (fun H=>?_))))))))))
 ·refine Ws (Hp (.one 0 true (.one 1 true (.one 2 false (.one 3 true .done)))) [102,105,108] [102,108] rfl (by kernel_rfl) rfl (by kernel_rfl) rfl rfl (fun _ h=>h) rfl rfl rfl (fun _ _ _ h=>h) fun FK NK wK K=>(Hr 2 tk rfl rfl rfl rfl tv (He 0 tk ek rfl rfl rfl rfl tv rfl rfl (Hr 1 tk rfl rfl rfl rfl tv (WH.nil rfl (Qn (Wt (QT.r ?_))))))))
  cases H
  exact Ends.autoC tk rfl rfl rfl tv
 refine Wk (Qn (Ws (Hp (.one 0 true (.one 1 true (.one 2 true (.one 3 true (.one 4 true (.one 5 true (.one 6 false (.one 7 true .done)))))))) [102,105,108] [102,108] rfl (by kernel_rfl) rfl (by kernel_rfl) rfl rfl (fun _ h=>h) rfl rfl rfl (fun _ _ _ h=>h) fun FK NK wK K=>(Hr 6 tk rfl rfl rfl rfl tv (He 0 tk ek rfl rfl rfl rfl tv rfl rfl (Hr 1 tk rfl rfl rfl rfl tv (WH.nil rfl (Qn (Wt ?_)))))))))
 cases H
 exact Ends.autoC tk rfl rfl rfl tv
theorem lO:aF Tryz.prog 70 Tryz.f70:=⟨Tryz.func70,rfl,by kernel_rfl⟩
theorem vk (a0:List ab) (a1:au) {r:(List (List af))×au×Int} (H:kc a0 a1=some r):LJ.Spec Tryz.prog 71 [.d (slT ai a0), .d (.agg [.str a1.S, .int .i64 a1.At, .int .i64 a1.Err])] [] (.tup [.d (slT aG r.1), .d (.agg [.str r.2.1.S, .int .i64 r.2.1.At, .int .i64 r.2.1.Err]), .d (.int .i64 r.2.2)]) []:=by
 refine LJ.Spec.code Tryz.func71 rfl 127 rfl rfl [] rfl fun w0 F0 S0 B0=>?_
 unfold kc at H
 refine G (Ef 103 rfl (R 1 rfl (Wa 105 tk rfl rfl rfl (R 1 rfl (N (R 1 rfl ?_))))))
 obtain ⟨x1,hx1,H⟩:=an H
 refine Cl [] (bW _ hx1) bX rfl tv rfl (R 3 rfl (Wa 108 tk rfl rfl rfl (R 1 rfl (Ef 0 rfl (NS (G (R 2 rfl (NQ (Wd rfl H (fun H=>?_) (fun H=>?_))))))))))
 ·refine Ws (Hp (.one 0 true (.one 1 true (.one 2 false (.one 3 true .done)))) [103,105,108] [103,108] rfl (by kernel_rfl) rfl (by kernel_rfl) rfl rfl (fun _ h=>h) rfl rfl rfl (fun _ _ _ h=>h) fun FK NK wK K=>(Hr 2 tk rfl rfl rfl rfl tv (He 0 tk ek rfl rfl rfl rfl tv rfl rfl (Hr 1 tk rfl rfl rfl rfl tv (WH.nil rfl (Qn (WC.nilT 4 aG rfl (Wt (QT.r ?_)))))))))
  cases H
  exact Ends.autoC tk rfl rfl rfl tv
 refine Wk (Qn (G (Ef 131 rfl (R 1 rfl (NS (G (R 1 rfl (NQ (Wb (Wl (ι:= {x:Nat×(Int×ByteArray×Int×Int×(List (List af))) //bP a0 x1 x.1 x.2=some r}) (fun x=>[(0, .d (slT ai a0)),(5, .ptr 105 0),(7, .d (.int .u64 x1.1)),(8, .ptr 108 0),(9, .own 131),(10, .d (.int .i64 x.1.2.1))]) (fun x=>[(105, .box 83 [.d (.str ByteArray.empty), .d (.int .i64 0), .d (.int .i64 0)]),(108, .box 83 [.d (.str x.1.2.2.1), .d (.int .i64 x.1.2.2.2.1), .d (.int .i64 x.1.2.2.2.2.1)]),(131, .row 142 1 (x.1.2.2.2.2.2.map aG))]) (fun x=>x.1.1) ⟨(fuel,(0,x1.2.S,x1.2.At,x1.2.Err,([]:List (List af)))),H⟩ (Lm p6 p3) fun x=>?_))))))))))
 obtain ⟨⟨k4,s3⟩,H⟩:=x
 rcases k4 with _ | k4
 ·exact aO H
 rw [bP] at H
 refine Ws (G (R 5 rfl (Wx 3 4 true tk sg0 rfl rfl (fun _=>tv) (RS 1 rfl ⟨by first | exact id | exact fun h=>by rw [h];rfl | simp_all,tv⟩ (NQ (Wd rfl H (fun H=>?_) (fun H=>?_)))))))
 ·refine Wk (Qn ?_)
  obtain ⟨K6,hK6,H⟩:=db H
  refine WC.cut (fun E m=>∃ s7:ByteArray×Int×Int×(List (List af)),K6 s7=some r∧iA E m [(0, .d (slT ai a0)),(5, .ptr 105 0),(7, .d (.int .u64 x1.1)),(8, .ptr 108 0),(9, .own 131),(10, .d (.int .i64 s3.1))] [(105, .box 83 [.d (.str ByteArray.empty), .d (.int .i64 0), .d (.int .i64 0)]),(108, .box 83 [.d (.str s7.1), .d (.int .i64 s7.2.1), .d (.int .i64 s7.2.2.1)]),(131, .row 142 1 (s7.2.2.2.map aG))]) ?_ ?_
  ·refine Wb (G (R 1 rfl ?_))
   obtain ⟨x8,hx8,H⟩:=an H
   refine Cl [] (bW _ hx8) bX rfl tv rfl (R 3 rfl (Wa 112 tk rfl rfl rfl (R 1 rfl (Ef 0 rfl (NS (G (R 2 rfl (NQ (Wd rfl H (fun H=>?_) (fun H=>?_))))))))))
   ·refine Ws (Hp (.one 0 true (.one 1 true (.one 2 false (.one 3 true .done)))) [105,108,112] [108,112] rfl (by kernel_rfl) rfl (by kernel_rfl) rfl rfl (fun _ h=>h) rfl rfl rfl (fun _ _ _ h=>h) fun FK NK wK K=>(Hr 2 tk rfl rfl rfl rfl tv (He 0 tk ek rfl rfl rfl rfl tv rfl rfl (Hr 1 tk rfl rfl rfl rfl tv (WH.nil rfl (Qn (WC.nilT 4 aG rfl (Wt (QT.r (QB.r (QT.r (QT.r (QB.r (QT.r ?_))))))))))))))
    cases H
    exact Ends.autoC tk rfl rfl rfl tv
   refine Wk (Qn (G (Ef 151 rfl (R 1 rfl (NS (G (R 1 rfl (NQ (Wb (Wl (ι:= {x:Nat×(Int×ByteArray×Int×Int×(List af)) //bJ s3 K6 x8 x.1 x.2=some r}) (fun x=>[(0, .d (slT ai a0)),(5, .ptr 105 0),(7, .d (.int .u64 x1.1)),(8, .ptr 108 0),(9, .own 131),(10, .d (.int .i64 s3.1)),(11, .d (.int .u64 x8.1)),(12, .ptr 112 0),(13, .own 151),(14, .d (.int .i64 x.1.2.1))]) (fun x=>[(105, .box 83 [.d (.str ByteArray.empty), .d (.int .i64 0), .d (.int .i64 0)]),(108, .box 83 [.d (.str s3.2.1), .d (.int .i64 s3.2.2.1), .d (.int .i64 s3.2.2.2.1)]),(112, .box 83 [.d (.str x.1.2.2.1), .d (.int .i64 x.1.2.2.2.1), .d (.int .i64 x.1.2.2.2.2.1)]),(131, .row 142 1 (s3.2.2.2.2.map aG)),(151, .row 159 3 (x.1.2.2.2.2.2.map bE))]) (fun x=>x.1.1) ⟨(fuel,(0,x8.2.S,x8.2.At,x8.2.Err,([]:List af))),H⟩ (Lm p10 p5) fun x=>?_))))))))))
   obtain ⟨⟨k11,s10⟩,H⟩:=x
   rcases k11 with _ | k11
   ·exact aO H
   rw [bJ] at H
   refine Ws (G (R 5 rfl (Wx 3 4 true tk sg0 rfl rfl (fun _=>tv) (RS 1 rfl ⟨by first | exact id | exact fun h=>by rw [h];rfl | simp_all,tv⟩ (NQ (Wd rfl H (fun H=>?_) (fun H=>?_)))))))
   ·refine Wk (Qn (Ws (Wb (G (R 1 rfl ?_)))))
    obtain ⟨x13,hx13,H⟩:=an H
    refine Cl [] (iU _ hx13) iV rfl tv rfl (R 3 rfl (Wa 116 tk rfl rfl rfl (R 1 rfl (Ef 0 rfl (NS (G (R 4 rfl (Wx 3 3 true tk sg0 rfl rfl (fun _=>tv) (Wx 2 6 false tk sg0 rfl rfl (fun _=>tv) (Wx 1 3 true tk sg0 rfl rfl (fun hb=>⟨by first | exact id | exact ⟨hb,fun h=>by rw [hb,h];rfl⟩ | exact ⟨hb,id⟩ | exact fun h=>by rw [hb,h];rfl | exact fun h=>by rw [h];rfl | simp_all,tv⟩) (RS 1 rfl ⟨by first | exact id | exact fun h=>by rw [h];rfl | simp_all,tv⟩ ?_)))))))))))
    refine NQ (Wd rfl H (fun H=>?_) (fun H=>?_))
    ·refine Ws (Hp (.one 0 true (.one 1 true (.one 2 false (.one 3 true .done)))) [105,108,112,116] [108,112,116] rfl (by kernel_rfl) rfl (by kernel_rfl) rfl rfl (fun _ h=>h) rfl rfl rfl (fun _ _ _ h=>h) fun FK NK wK K=>(Hr 2 tk rfl rfl rfl rfl tv (He 0 tk ek rfl rfl rfl rfl tv rfl rfl (Hr 1 tk rfl rfl rfl rfl tv (WH.nil rfl (Qn (WC.nilT 4 aG rfl (Wt (QT.r (QB.r (QT.r (QT.r (QB.r (QT.r (QB.r (QT.r (QT.r (QB.r (QT.r ?_)))))))))))))))))))
     cases H
     exact Ends.autoC tk rfl rfl rfl tv
    refine Wk (Qn (G (R 1 rfl ?_)))
    obtain ⟨x15,hx15,H⟩:=an H
    refine Cl [] (bW _ hx15) bX rfl tv rfl (R 3 rfl (Wa 118 tk rfl rfl rfl (R 1 rfl (Ef 0 rfl (N (R 2 rfl (WL.yv (LJ.Y.min rfl rfl rfl) rfl rfl rfl (R 2 rfl (Wa 119 tk rfl rfl rfl (Ef 0 rfl (NS (G (R 2 rfl (NQ (Wd rfl H (fun H=>?_) (fun H=>?_))))))))))))))))
    ·refine G (R 1 rfl ?_)
     obtain ⟨x17,hx17,H⟩:=an H
     refine Cl [] (bW _ hx17) bX rfl tv rfl (R 3 rfl (Wa 121 tk rfl rfl rfl (R 1 rfl (Ef 0 rfl (NQ (Hp (.one 0 true (.one 1 true (.one 2 true (.one 3 true (.one 4 true (.one 5 false (.one 6 false .done))))))) [105,108,112,116,118,119,121] [105,108,112,116,121] rfl (by kernel_rfl) rfl (by kernel_rfl) rfl rfl (fun _ h=>h) rfl rfl rfl (fun _ _ _ h=>h) fun FK NK wK K=>(Hr 1 tk rfl rfl rfl rfl tv (WH.yv rfl (LJ.Y.min rfl rfl rfl) rfl rfl rfl (Hr 3 tk rfl rfl rfl rfl tv (He 0 tk ek rfl rfl rfl rfl tv rfl rfl (He 0 tk ek rfl rfl rfl rfl tv rfl rfl (WH.nil rfl (Qn (Hp (.one 0 true (.one 1 true (.one 4 true (.one 2 false (.one 3 false (.one 5 true (.one 6 false .done))))))) [105,108,112,116,118,119,121] [105,108,116,118,119,121] rfl (by kernel_rfl) rfl (by kernel_rfl) rfl rfl (fun _ h=>h) rfl rfl rfl (fun _ _ _ h=>h) fun FK NK wK K=>(WH.mv rfl rfl rfl rfl rfl rfl rfl rfl rfl (Hr 2 tk rfl rfl rfl rfl tv ?_))))))))))))))))
     refine He 204 tk ek rfl rfl rfl rfl tv rfl rfl (WH.freezeT 204 bE ([(⟨x13.1,IntKind.i64.wrap (iMin x15.1 (2147483648:Int)),IntKind.i64.wrap (iMin x17.1 (2147483648:Int))⟩:af)]:List af) rfl rfl rfl rfl ?_)
     obtain ⟨g18,H⟩:=ay H
     refine WH.appT bE s10.2.2.2.2 ([(⟨x13.1,IntKind.i64.wrap (iMin x15.1 (2147483648:Int)),IntKind.i64.wrap (iMin x17.1 (2147483648:Int))⟩:af)]:List af) tk ek rfl rfl (fun _=>rfl) (fun _=>rfl) rfl rfl rfl rfl rfl (bQ g18) rfl rfl rfl rfl rfl rfl rfl ?_
     refine WH.mv rfl rfl rfl rfl rfl rfl rfl rfl rfl (He 0 tk ek rfl rfl rfl rfl tv rfl rfl (WH.nil rfl (Qb (Qn ?_))))
     exact Wg (R 3 rfl (NQ (⟨⟨(k11,(IntKind.i64.wrap (s10.1+1),x17.2.S,x17.2.At,x17.2.Err,s10.2.2.2.2++([(⟨x13.1,IntKind.i64.wrap (iMin x15.1 (2147483648:Int)),IntKind.i64.wrap (iMin x17.1 (2147483648:Int))⟩:af)]:List af))),H⟩,Z,Lm p10 p5⟩)))
    refine Wk (Qn (Hp (.one 0 true (.one 1 true (.one 4 true (.one 2 false (.one 3 false (.one 5 true (.one 6 false .done))))))) [105,108,112,116,118,119] [105,108,116,118,119] rfl (by kernel_rfl) rfl (by kernel_rfl) rfl rfl (fun _ h=>h) rfl rfl rfl (fun _ _ _ h=>h) fun FK NK wK K=>(WH.mv rfl rfl rfl rfl rfl rfl rfl rfl rfl (Hr 2 tk rfl rfl rfl rfl tv (He 204 tk ek rfl rfl rfl rfl tv rfl rfl (WH.freezeT 204 bE ([(⟨x13.1,IntKind.i64.wrap (iMin x15.1 (2147483648:Int)),0⟩:af)]:List af) rfl rfl rfl rfl ?_))))))
    obtain ⟨g19,H⟩:=ay H
    refine WH.appT bE s10.2.2.2.2 ([(⟨x13.1,IntKind.i64.wrap (iMin x15.1 (2147483648:Int)),0⟩:af)]:List af) tk ek rfl rfl (fun _=>rfl) (fun _=>rfl) rfl rfl rfl rfl rfl (bQ g19) rfl rfl rfl rfl rfl rfl rfl ?_
    refine WH.mv rfl rfl rfl rfl rfl rfl rfl rfl rfl (He 0 tk ek rfl rfl rfl rfl tv rfl rfl (WH.nil rfl (Qb (Qn ?_))))
    exact Wg (R 3 rfl (NQ (⟨⟨(k11,(IntKind.i64.wrap (s10.1+1),x15.2.S,x15.2.At,x15.2.Err,s10.2.2.2.2++([(⟨x13.1,IntKind.i64.wrap (iMin x15.1 (2147483648:Int)),0⟩:af)]:List af))),H⟩,Z,Lm p10 p5⟩)))
   refine WC.exit (Qx (Qx (Qh (Qn ?_))))
   refine Hp (.one 0 true (.one 1 true (.one 4 true (.one 2 false (.one 3 false (.one 5 true (.one 6 false .done))))))) [105,108,112] [105,112] rfl (by kernel_rfl) rfl (by kernel_rfl) rfl rfl (fun _ h=>h) rfl rfl rfl (fun _ _ _ h=>h) fun FK NK wK K=>(WH.mv rfl rfl rfl rfl rfl rfl rfl rfl rfl (WH.mv rfl rfl rfl rfl rfl rfl rfl rfl rfl (Hr 1 tk rfl rfl rfl rfl tv (WH.freezeT 151 bE s10.2.2.2.2 rfl rfl rfl rfl (He 209 tk ek rfl rfl rfl rfl tv rfl rfl (WH.freezeT 209 aG ([s10.2.2.2.2]:List (List af)) rfl rfl rfl rfl ?_))))))
   obtain ⟨g20,H⟩:=ay H
   refine WH.appT aG s3.2.2.2.2 ([s10.2.2.2.2]:List (List af)) tk ek rfl rfl (fun _=>rfl) (fun _=>rfl) rfl rfl rfl rfl rfl (bQ g20) rfl rfl rfl rfl rfl rfl rfl ?_
   refine WH.mv rfl rfl rfl rfl rfl rfl rfl rfl rfl (He 0 tk ek rfl rfl rfl rfl tv rfl rfl (WH.nil rfl (Qb (Qn ?_))))
   exact ⟨(s10.2.1,s10.2.2.1,s10.2.2.2.1,s3.2.2.2.2++([s10.2.2.2.2]:List (List af))),H,Lw q6 p3⟩
  ·rintro E m ⟨s7,H,hl⟩
   refine WC.lessW hl ?_
   replace H:=(hK6 _).symm.trans H
   try dsimp only at H
   exact Wg (R 3 rfl (NQ (⟨⟨(k4,(IntKind.i64.wrap (s3.1+1),s7.1,s7.2.1,s7.2.2.1,s7.2.2.2)),H⟩,Z,Lm p6 p3⟩)))
 refine WC.exit (Qx (Qx (Qh (Qn ?_))))
 refine Ws (G (R 3 rfl (NQ (Wd rfl H (fun H=>?_) (fun H=>?_)))))
 ·refine Ws (Hp (.one 0 true (.one 1 true (.one 2 true (.one 3 true (.one 4 false (.one 5 true .done)))))) [105,108] [108] rfl (by kernel_rfl) rfl (by kernel_rfl) rfl rfl (fun _ h=>h) rfl rfl rfl (fun _ _ _ h=>h) fun FK NK wK K=>(Hr 4 tk rfl rfl rfl rfl tv (He 0 tk ek rfl rfl rfl rfl tv rfl rfl (Hr 1 tk rfl rfl rfl rfl tv (WH.nil rfl (Qn (WC.nilT 4 aG rfl (Wt (QT.r ?_)))))))))
  cases H
  exact Ends.autoC tk rfl rfl rfl tv
 refine Wk (Qn (Ws (G (R 2 rfl (WL.freezeT 131 aG s3.2.2.2.2 rfl rfl rfl rfl ?_)))))
 obtain ⟨x22,hx22,H⟩:=an H
 refine Cl [] (nI _ _ hx22) nJ rfl tv rfl (R 1 rfl (N (R 2 rfl (NQ (Wd rfl H (fun H=>?_) (fun H=>?_))))))
 ·refine Ws (Hp (.one 0 true (.one 1 true (.one 2 true (.one 3 false (.one 4 true .done))))) [105,108] [108] rfl (by kernel_rfl) rfl (by kernel_rfl) rfl rfl (fun _ h=>h) rfl rfl rfl (fun _ _ _ h=>h) fun FK NK wK K=>(Hr 3 tk rfl rfl rfl rfl tv (He 0 tk ek rfl rfl rfl rfl tv rfl rfl (Hr 1 tk rfl rfl rfl rfl tv (WH.nil rfl (Qn (WC.nilT 4 aG rfl (Wt (QT.r ?_)))))))))
  cases H
  exact Ends.autoC tk rfl rfl rfl tv
 refine Wk (Qn (Ws (Hp (.one 0 true (.one 1 true (.one 2 true (.one 3 false (.one 4 true .done))))) [105,108] [108] rfl (by kernel_rfl) rfl (by kernel_rfl) rfl rfl (fun _ h=>h) rfl rfl rfl (fun _ _ _ h=>h) fun FK NK wK K=>(Hr 3 tk rfl rfl rfl rfl tv (He 0 tk ek rfl rfl rfl rfl tv rfl rfl (Hr 1 tk rfl rfl rfl rfl tv (WH.nil rfl (Qn (Wt ?_)))))))))
 cases H
 exact Ends.autoC tk rfl rfl rfl tv
theorem vl:aF Tryz.prog 71 Tryz.f71:=⟨Tryz.func71,rfl,by kernel_rfl⟩
theorem vm (a0:au) {r:ar×au×Int} (H:jf a0=some r):LJ.Spec Tryz.prog 99 [.d (.agg [.str a0.S, .int .i64 a0.At, .int .i64 a0.Err])] [] (.tup [.d (.agg [.int .i64 r.1.Op, .int .i64 r.1.A, .int .i64 r.1.B]), .d (.agg [.str r.2.1.S, .int .i64 r.2.1.At, .int .i64 r.2.1.Err]), .d (.int .i64 r.2.2)]) []:=by
 refine LJ.Spec.code Tryz.func99 rfl 92 rfl rfl [] rfl fun w0 F0 S0 B0=>?_
 unfold jf at H
 refine G (Ef 101 rfl (Wa 102 tk rfl rfl rfl (Wa 103 tk rfl rfl rfl (R 1 rfl (N (R 1 rfl ?_))))))
 obtain ⟨x1,hx1,H⟩:=an H
 refine Cl [] (iU _ hx1) iV rfl tv rfl (R 3 rfl (Wa 106 tk rfl rfl rfl (R 1 rfl (Ef 0 rfl (NS (G (R 3 rfl (NQ (Wd rfl H (fun H=>?_) (fun H=>?_))))))))))
 ·refine Ws (Hp (.one 0 true (.one 1 true (.one 2 true (.one 3 true (.one 4 false (.one 5 false (.one 6 true .done))))))) [101,102,103,106] [101,106] rfl (by kernel_rfl) rfl (by kernel_rfl) rfl rfl (fun _ h=>h) rfl rfl rfl (fun _ _ _ h=>h) fun FK NK wK K=>(Hr 4 tk rfl rfl rfl rfl tv (He 0 tk ek rfl rfl rfl rfl tv rfl rfl (He 0 tk ek rfl rfl rfl rfl tv rfl rfl (Hr 1 tk rfl rfl rfl rfl tv (WH.nil rfl (Qn (Wt (QT.r ?_)))))))))
  cases H
  exact Ends.autoC tk rfl rfl rfl tv
 refine Wk (Qn (Ws (G (R 1 rfl ?_))))
 obtain ⟨x3,hx3,H⟩:=an H
 refine Cl [] (gH _ hx3) gJ rfl tv rfl (R 1 rfl (NQ (Wd rfl H (fun H=>?_) (fun H=>?_))))
 ·refine Ws (Hp (.one 0 true (.one 1 true (.one 2 false (.one 3 false (.one 4 true .done))))) [101,102,103,106] [101,106] rfl (by kernel_rfl) rfl (by kernel_rfl) rfl rfl (fun _ h=>h) rfl rfl rfl (fun _ _ _ h=>h) fun FK NK wK K=>(Hr 2 tk rfl rfl rfl rfl tv (He 0 tk ek rfl rfl rfl rfl tv rfl rfl (He 0 tk ek rfl rfl rfl rfl tv rfl rfl (Hr 1 tk rfl rfl rfl rfl tv (WH.nil rfl (Qn (Wt (QT.r ?_)))))))))
  cases H
  exact Ends.autoC tk rfl rfl rfl tv
 refine Wk (Qn (G (R 1 rfl ?_)))
 obtain ⟨x5,hx5,H⟩:=an H
 refine Cl [] (iK _ hx5) iL rfl tv rfl (Ef 135 rfl (R 2 rfl (NS (G (R 1 rfl (NQ (Wb (Wl (ι:= {x:Nat×(Int×ByteArray×Int×Int×(List Int)) //cW x1 x5 x.1 x.2=some r}) (fun x=>[(2, .ptr 102 0),(3, .ptr 103 0),(5, .d (.int .i64 x1.1)),(6, .ptr 106 0),(7, .d (.str x5)),(8, .own 135),(9, .d (.int .i64 x.1.2.1))]) (fun x=>[(102, .box 100 [.d (.int .i64 0), .d (.int .i64 0), .d (.int .i64 0)]),(103, .box 83 [.d (.str ByteArray.empty), .d (.int .i64 0), .d (.int .i64 0)]),(106, .box 83 [.d (.str x.1.2.2.1), .d (.int .i64 x.1.2.2.2.1), .d (.int .i64 x.1.2.2.2.2.1)]),(135, .row 3 1 (x.1.2.2.2.2.2.map aA))]) (fun x=>x.1.1) ⟨(fuel,(0,x1.2.S,x1.2.At,x1.2.Err,([0,0]:List Int))),H⟩ (Lm p7 p4) fun x=>?_))))))))
 obtain ⟨⟨k7,s6⟩,H⟩:=x
 rcases k7 with _ | k7
 ·exact aO H
 rw [cW] at H
 refine Ws (G (R 4 rfl (NQ (Wd rfl H (fun H=>?_) (fun H=>?_)))))
 ·refine Wk (Qn (Ws (Wb (Ws (G ?_)))))
  obtain ⟨g9,H⟩:=ay H
  refine RS 4 rfl ⟨(al g9),tv⟩ (NQ (Wd rfl H (fun H=>?_) (fun H=>?_)))
  ·refine G (R 1 rfl ?_)
   obtain ⟨x11,hx11,H⟩:=an H
   refine Cl [] (fP _ hx11) fQ rfl tv rfl (R 3 rfl (Wa 111 tk rfl rfl rfl (R 1 rfl (Ef 0 rfl (NQ (Hp (.one 0 true (.one 1 true (.one 2 true (.one 3 true (.one 4 false (.one 5 false (.one 6 false .done))))))) [102,103,106,111] [102,103,111] rfl (by kernel_rfl) rfl (by kernel_rfl) rfl rfl (fun _ h=>h) rfl rfl rfl (fun _ _ _ h=>h) fun FK NK wK K=>(WH.mv rfl rfl rfl rfl rfl rfl rfl rfl rfl (Hr 3 tk rfl rfl rfl rfl tv ?_))))))))
   obtain ⟨g12,H⟩:=ay H
   refine WH.yvs rfl (LJ.Y.idxRel aA s6.2.2.2.2 s6.1 tk rfl rfl rfl rfl rfl (al g12)) rfl rfl rfl rfl rfl (WH.storeRel aA s6.2.2.2.2 s6.1 0 x11.1 (.int .i64 x11.1) rfl rfl rfl rfl rfl (fun _=>rfl) rfl (by kernel_rfl) rfl rfl (by first | exact al g12 | (have:=al g12;simpa only [List.length_set,List.length_map] using this)) rfl rfl rfl rfl rfl rfl ?_)
   refine He 0 tk ek rfl rfl rfl rfl tv rfl rfl (WH.nil rfl (Qn (G (R 3 rfl (NQ (Wd rfl H (fun H=>?_) (fun H=>?_)))))))
   ·refine Ws (Hp (.one 0 true (.one 1 true (.one 2 true (.one 3 true (.one 4 false (.one 5 false (.one 6 true .done))))))) [102,103,106,111,135,1000135] [106,111,135] rfl (by kernel_rfl) rfl (by kernel_rfl) rfl rfl (fun _ h=>h) rfl rfl rfl (fun _ _ _ h=>h) fun FK NK wK K=>(Hr 4 tk rfl rfl rfl rfl tv (He 0 tk ek rfl rfl rfl rfl tv rfl rfl (He 0 tk ek rfl rfl rfl rfl tv rfl rfl (Hr 1 tk rfl rfl rfl rfl tv (WH.nil rfl (Qn (Wt (QB.r (QT.r (QT.r (QB.r (QT.r ?_)))))))))))))
    cases H
    exact Ends.autoC tk rfl rfl rfl tv
   refine Wk (Qb (Qn ?_))
   exact Wg (R 3 rfl (NQ (⟨⟨(k7,(IntKind.i64.wrap (s6.1+1),x11.2.S,x11.2.At,x11.2.Err,s6.2.2.2.2.set s6.1.toNat x11.1)),H⟩,Z,Lm p7 p4⟩)))
  refine G (R 1 rfl ?_)
  obtain ⟨x14,hx14,H⟩:=an H
  refine Cl [] (bW _ hx14) bX rfl tv rfl (R 3 rfl (Wa 113 tk rfl rfl rfl (R 1 rfl (Ef 0 rfl (NQ (Hp (.one 0 true (.one 1 true (.one 2 true (.one 3 true (.one 4 true (.one 5 true (.one 6 false (.one 7 false (.one 8 false .done))))))))) [102,103,106,113] [102,103,113] rfl (by kernel_rfl) rfl (by kernel_rfl) rfl rfl (fun _ h=>h) rfl rfl rfl (fun _ _ _ h=>h) fun FK NK wK K=>(WH.mv rfl rfl rfl rfl rfl rfl rfl rfl rfl (Hr 2 tk rfl rfl rfl rfl tv (WH.yv rfl (LJ.Y.min rfl rfl rfl) rfl rfl rfl (Hr 2 tk rfl rfl rfl rfl tv ?_))))))))))
  obtain ⟨g15,H⟩:=ay H
  refine WH.yvs rfl (LJ.Y.idxRel aA s6.2.2.2.2 s6.1 tk rfl rfl rfl rfl rfl (al g15)) rfl rfl rfl rfl rfl (WH.storeRel aA s6.2.2.2.2 s6.1 0 (IntKind.i64.wrap (iMin x14.1 (2147483648:Int))) (.int .i64 (IntKind.i64.wrap (iMin x14.1 (2147483648:Int)))) rfl rfl rfl rfl rfl (fun _=>rfl) rfl (by kernel_rfl) rfl rfl (by first | exact al g15 | (have:=al g15;simpa only [List.length_set,List.length_map] using this)) rfl rfl rfl rfl rfl rfl ?_)
  refine He 0 tk ek rfl rfl rfl rfl tv rfl rfl (WH.nil rfl (Qn (G (R 3 rfl (NQ (Wd rfl H (fun H=>?_) (fun H=>?_)))))))
  ·refine Ws (Hp (.one 0 true (.one 1 true (.one 2 true (.one 3 true (.one 4 false (.one 5 false (.one 6 true .done))))))) [102,103,106,113,135,1000135] [106,113,135] rfl (by kernel_rfl) rfl (by kernel_rfl) rfl rfl (fun _ h=>h) rfl rfl rfl (fun _ _ _ h=>h) fun FK NK wK K=>(Hr 4 tk rfl rfl rfl rfl tv (He 0 tk ek rfl rfl rfl rfl tv rfl rfl (He 0 tk ek rfl rfl rfl rfl tv rfl rfl (Hr 1 tk rfl rfl rfl rfl tv (WH.nil rfl (Qn (Wt (QB.r (QT.r (QT.r (QB.r (QT.r ?_)))))))))))))
   cases H
   exact Ends.autoC tk rfl rfl rfl tv
  refine Wk (Qb (Qn ?_))
  exact Wg (R 3 rfl (NQ (⟨⟨(k7,(IntKind.i64.wrap (s6.1+1),x14.2.S,x14.2.At,x14.2.Err,s6.2.2.2.2.set s6.1.toNat (IntKind.i64.wrap (iMin x14.1 (2147483648:Int))))),H⟩,Z,Lm p7 p4⟩)))
 refine WC.exit (Qx (Qx (Qh (Qn ?_))))
 refine Ws ?_
 obtain ⟨g17_2_1,H⟩:=ay H
 obtain ⟨g17_5_1,H⟩:=ay H
 refine WC.heldF [(2, .ptr 102 0),(3, .ptr 103 0),(6, .ptr 106 0),(14, .ptr 114 0)] [(102, .box 100 [.d (.int .i64 0), .d (.int .i64 0), .d (.int .i64 0)]),(103, .box 83 [.d (.str ByteArray.empty), .d (.int .i64 0), .d (.int .i64 0)]),(106, .box 83 [.d (.str s6.2.1), .d (.int .i64 s6.2.2.1), .d (.int .i64 s6.2.2.2.1)]),(114, .box 100 [.d (.int .i64 x1.1), .d (.int .i64 (s6.2.2.2.2.getD (0:Int).toNat default)), .d (.int .i64 (s6.2.2.2.2.getD (1:Int).toNat default))])] (sT 0 (sT 1 (sT 4 (fk (sf 2 (fk (sf 3 (fk (sf 5 (fk (sf 6 (sT 7 (sf 8 (sf 9 sd)))) (sf 8 (sf 6 (sT 7 (sf 9 sd)))))) (sf 8 (sf 5 (sf 6 (sT 7 (sf 9 sd))))))) (fk (sf 5 (fk (sf 3 (fk (sf 6 (sT 7 (sf 8 (sf 9 sd)))) (sf 8 (sf 6 (sT 7 (sf 9 sd)))))) (fk (sf 6 (fk (sf 3 (sT 7 (sf 8 (sf 9 sd)))) (sf 8 (sf 3 (sT 7 (sf 9 sd)))))) (sf 8 (fk (sf 3 (sf 6 (sT 7 (sf 9 sd)))) (sf 6 (sf 3 (sT 7 (sf 9 sd))))))))) (sf 8 (fk (sf 3 (sf 5 (sf 6 (sT 7 (sf 9 sd))))) (sf 5 (fk (sf 3 (sf 6 (sT 7 (sf 9 sd)))) (sf 6 (sf 3 (sT 7 (sf 9 sd))))))))))) (fk (sf 5 (fk (sf 2 (fk (sf 3 (fk (sf 6 (sT 7 (sf 8 (sf 9 sd)))) (sf 8 (sf 6 (sT 7 (sf 9 sd)))))) (fk (sf 6 (fk (sf 3 (sT 7 (sf 8 (sf 9 sd)))) (sf 8 (sf 3 (sT 7 (sf 9 sd)))))) (sf 8 (fk (sf 3 (sf 6 (sT 7 (sf 9 sd)))) (sf 6 (sf 3 (sT 7 (sf 9 sd))))))))) (fk (sf 6 (fk (sf 2 (fk (sf 3 (sT 7 (sf 8 (sf 9 sd)))) (sf 8 (sf 3 (sT 7 (sf 9 sd)))))) (sf 8 (sf 2 (sf 3 (sT 7 (sf 9 sd))))))) (sf 8 (fk (sf 2 (fk (sf 3 (sf 6 (sT 7 (sf 9 sd)))) (sf 6 (sf 3 (sT 7 (sf 9 sd)))))) (sf 6 (sf 2 (sf 3 (sT 7 (sf 9 sd)))))))))) (sf 8 (fk (sf 2 (fk (sf 3 (sf 5 (sf 6 (sT 7 (sf 9 sd))))) (sf 5 (fk (sf 3 (sf 6 (sT 7 (sf 9 sd)))) (sf 6 (sf 3 (sT 7 (sf 9 sd)))))))) (sf 5 (fk (sf 2 (fk (sf 3 (sf 6 (sT 7 (sf 9 sd)))) (sf 6 (sf 3 (sT 7 (sf 9 sd)))))) (sf 6 (sf 2 (sf 3 (sT 7 (sf 9 sd)))))))))))))) [102,103,106] [102,103,106] rfl (by kernel_rfl) rfl (by kernel_rfl) rfl rfl (fun _ h=>h) rfl rfl rfl (fun FK NK wK K=>?_) ?_
 ·refine Hr 1 tk rfl rfl rfl rfl tv (WH.mv rfl rfl rfl rfl rfl rfl rfl rfl rfl (WH.mv rfl rfl rfl rfl rfl rfl rfl rfl rfl (WH.fork ?_ (WH.fork ?_ ?_))))
  ·refine WH.yvs rfl (LJ.Y.idxRel aA s6.2.2.2.2 (0:Int) tk rfl rfl rfl rfl rfl (al g17_2_1)) rfl rfl rfl rfl rfl (WH.fork ?_ (WH.fork ?_ ?_))
   ·refine WH.yvs rfl (LJ.Y.loadRel aA s6.2.2.2.2 (0:Int) 0 rfl rfl (fun _=>rfl) rfl (by kernel_rfl) rfl (by first | exact al g17_2_1 | (have:=al g17_2_1;simpa only [List.length_set,List.length_map] using this))) rfl rfl rfl rfl rfl (WH.fork ?_ ?_)
    ·refine WH.yvs rfl (LJ.Y.idxRel aA s6.2.2.2.2 (1:Int) tk rfl rfl rfl rfl rfl (al g17_5_1)) rfl rfl rfl rfl rfl (WH.fork ?_ ?_)
     ·exact WH.yvs rfl (LJ.Y.loadRel aA s6.2.2.2.2 (1:Int) 0 rfl rfl (fun _=>rfl) rfl (by kernel_rfl) rfl (by first | exact al g17_5_1 | (have:=al g17_5_1;simpa only [List.length_set,List.length_map] using this))) rfl rfl rfl rfl rfl (Hr 1 tk rfl rfl rfl rfl tv (WH.alloc 114 tk rfl rfl rfl rfl rfl rfl (He 0 tk ek rfl rfl rfl rfl tv rfl rfl (Hn rfl (Lw q4 p4)))))
     ·exact WH.alloc 114 tk rfl rfl rfl rfl rfl rfl (WH.yvs rfl (LJ.Y.loadRel aA s6.2.2.2.2 (1:Int) 0 rfl rfl (fun _=>rfl) rfl (by kernel_rfl) rfl (by first | exact al g17_5_1 | (have:=al g17_5_1;simpa only [List.length_set,List.length_map] using this))) rfl rfl rfl rfl rfl (Hr 1 tk rfl rfl rfl rfl tv (He 0 tk ek rfl rfl rfl rfl tv rfl rfl (Hn rfl (Lw q4 p4)))))
    ·exact WH.alloc 114 tk rfl rfl rfl rfl rfl rfl (WH.yvs rfl (LJ.Y.idxRel aA s6.2.2.2.2 (1:Int) tk rfl rfl rfl rfl rfl (al g17_5_1)) rfl rfl rfl rfl rfl (WH.yvs rfl (LJ.Y.loadRel aA s6.2.2.2.2 (1:Int) 0 rfl rfl (fun _=>rfl) rfl (by kernel_rfl) rfl (by first | exact al g17_5_1 | (have:=al g17_5_1;simpa only [List.length_set,List.length_map] using this))) rfl rfl rfl rfl rfl (Hr 1 tk rfl rfl rfl rfl tv (He 0 tk ek rfl rfl rfl rfl tv rfl rfl (Hn rfl (Lw q4 p4))))))
   ·refine WH.yvs rfl (LJ.Y.idxRel aA s6.2.2.2.2 (1:Int) tk rfl rfl rfl rfl rfl (al g17_5_1)) rfl rfl rfl rfl rfl (WH.fork ?_ (WH.fork ?_ ?_))
    ·refine WH.yvs rfl (LJ.Y.loadRel aA s6.2.2.2.2 (0:Int) 0 rfl rfl (fun _=>rfl) rfl (by kernel_rfl) rfl (by first | exact al g17_2_1 | (have:=al g17_2_1;simpa only [List.length_set,List.length_map] using this))) rfl rfl rfl rfl rfl (WH.fork ?_ ?_)
     ·exact WH.yvs rfl (LJ.Y.loadRel aA s6.2.2.2.2 (1:Int) 0 rfl rfl (fun _=>rfl) rfl (by kernel_rfl) rfl (by first | exact al g17_5_1 | (have:=al g17_5_1;simpa only [List.length_set,List.length_map] using this))) rfl rfl rfl rfl rfl (Hr 1 tk rfl rfl rfl rfl tv (WH.alloc 114 tk rfl rfl rfl rfl rfl rfl (He 0 tk ek rfl rfl rfl rfl tv rfl rfl (Hn rfl (Lw q4 p4)))))
     ·exact WH.alloc 114 tk rfl rfl rfl rfl rfl rfl (WH.yvs rfl (LJ.Y.loadRel aA s6.2.2.2.2 (1:Int) 0 rfl rfl (fun _=>rfl) rfl (by kernel_rfl) rfl (by first | exact al g17_5_1 | (have:=al g17_5_1;simpa only [List.length_set,List.length_map] using this))) rfl rfl rfl rfl rfl (Hr 1 tk rfl rfl rfl rfl tv (He 0 tk ek rfl rfl rfl rfl tv rfl rfl (Hn rfl (Lw q4 p4)))))
    ·refine WH.yvs rfl (LJ.Y.loadRel aA s6.2.2.2.2 (1:Int) 0 rfl rfl (fun _=>rfl) rfl (by kernel_rfl) rfl (by first | exact al g17_5_1 | (have:=al g17_5_1;simpa only [List.length_set,List.length_map] using this))) rfl rfl rfl rfl rfl (WH.fork ?_ ?_)
     ·exact WH.yvs rfl (LJ.Y.loadRel aA s6.2.2.2.2 (0:Int) 0 rfl rfl (fun _=>rfl) rfl (by kernel_rfl) rfl (by first | exact al g17_2_1 | (have:=al g17_2_1;simpa only [List.length_set,List.length_map] using this))) rfl rfl rfl rfl rfl (Hr 1 tk rfl rfl rfl rfl tv (WH.alloc 114 tk rfl rfl rfl rfl rfl rfl (He 0 tk ek rfl rfl rfl rfl tv rfl rfl (Hn rfl (Lw q4 p4)))))
     ·exact WH.alloc 114 tk rfl rfl rfl rfl rfl rfl (WH.yvs rfl (LJ.Y.loadRel aA s6.2.2.2.2 (0:Int) 0 rfl rfl (fun _=>rfl) rfl (by kernel_rfl) rfl (by first | exact al g17_2_1 | (have:=al g17_2_1;simpa only [List.length_set,List.length_map] using this))) rfl rfl rfl rfl rfl (Hr 1 tk rfl rfl rfl rfl tv (He 0 tk ek rfl rfl rfl rfl tv rfl rfl (Hn rfl (Lw q4 p4)))))
    ·refine WH.alloc 114 tk rfl rfl rfl rfl rfl rfl (WH.fork ?_ ?_)
     ·exact WH.yvs rfl (LJ.Y.loadRel aA s6.2.2.2.2 (0:Int) 0 rfl rfl (fun _=>rfl) rfl (by kernel_rfl) rfl (by first | exact al g17_2_1 | (have:=al g17_2_1;simpa only [List.length_set,List.length_map] using this))) rfl rfl rfl rfl rfl (WH.yvs rfl (LJ.Y.loadRel aA s6.2.2.2.2 (1:Int) 0 rfl rfl (fun _=>rfl) rfl (by kernel_rfl) rfl (by first | exact al g17_5_1 | (have:=al g17_5_1;simpa only [List.length_set,List.length_map] using this))) rfl rfl rfl rfl rfl (Hr 1 tk rfl rfl rfl rfl tv (He 0 tk ek rfl rfl rfl rfl tv rfl rfl (Hn rfl (Lw q4 p4)))))
     ·exact WH.yvs rfl (LJ.Y.loadRel aA s6.2.2.2.2 (1:Int) 0 rfl rfl (fun _=>rfl) rfl (by kernel_rfl) rfl (by first | exact al g17_5_1 | (have:=al g17_5_1;simpa only [List.length_set,List.length_map] using this))) rfl rfl rfl rfl rfl (WH.yvs rfl (LJ.Y.loadRel aA s6.2.2.2.2 (0:Int) 0 rfl rfl (fun _=>rfl) rfl (by kernel_rfl) rfl (by first | exact al g17_2_1 | (have:=al g17_2_1;simpa only [List.length_set,List.length_map] using this))) rfl rfl rfl rfl rfl (Hr 1 tk rfl rfl rfl rfl tv (He 0 tk ek rfl rfl rfl rfl tv rfl rfl (Hn rfl (Lw q4 p4)))))
   ·refine WH.alloc 114 tk rfl rfl rfl rfl rfl rfl (WH.fork ?_ ?_)
    ·exact WH.yvs rfl (LJ.Y.loadRel aA s6.2.2.2.2 (0:Int) 0 rfl rfl (fun _=>rfl) rfl (by kernel_rfl) rfl (by first | exact al g17_2_1 | (have:=al g17_2_1;simpa only [List.length_set,List.length_map] using this))) rfl rfl rfl rfl rfl (WH.yvs rfl (LJ.Y.idxRel aA s6.2.2.2.2 (1:Int) tk rfl rfl rfl rfl rfl (al g17_5_1)) rfl rfl rfl rfl rfl (WH.yvs rfl (LJ.Y.loadRel aA s6.2.2.2.2 (1:Int) 0 rfl rfl (fun _=>rfl) rfl (by kernel_rfl) rfl (by first | exact al g17_5_1 | (have:=al g17_5_1;simpa only [List.length_set,List.length_map] using this))) rfl rfl rfl rfl rfl (Hr 1 tk rfl rfl rfl rfl tv (He 0 tk ek rfl rfl rfl rfl tv rfl rfl (Hn rfl (Lw q4 p4))))))
    ·refine WH.yvs rfl (LJ.Y.idxRel aA s6.2.2.2.2 (1:Int) tk rfl rfl rfl rfl rfl (al g17_5_1)) rfl rfl rfl rfl rfl (WH.fork ?_ ?_)
     ·exact WH.yvs rfl (LJ.Y.loadRel aA s6.2.2.2.2 (0:Int) 0 rfl rfl (fun _=>rfl) rfl (by kernel_rfl) rfl (by first | exact al g17_2_1 | (have:=al g17_2_1;simpa only [List.length_set,List.length_map] using this))) rfl rfl rfl rfl rfl (WH.yvs rfl (LJ.Y.loadRel aA s6.2.2.2.2 (1:Int) 0 rfl rfl (fun _=>rfl) rfl (by kernel_rfl) rfl (by first | exact al g17_5_1 | (have:=al g17_5_1;simpa only [List.length_set,List.length_map] using this))) rfl rfl rfl rfl rfl (Hr 1 tk rfl rfl rfl rfl tv (He 0 tk ek rfl rfl rfl rfl tv rfl rfl (Hn rfl (Lw q4 p4)))))
     ·exact WH.yvs rfl (LJ.Y.loadRel aA s6.2.2.2.2 (1:Int) 0 rfl rfl (fun _=>rfl) rfl (by kernel_rfl) rfl (by first | exact al g17_5_1 | (have:=al g17_5_1;simpa only [List.length_set,List.length_map] using this))) rfl rfl rfl rfl rfl (WH.yvs rfl (LJ.Y.loadRel aA s6.2.2.2.2 (0:Int) 0 rfl rfl (fun _=>rfl) rfl (by kernel_rfl) rfl (by first | exact al g17_2_1 | (have:=al g17_2_1;simpa only [List.length_set,List.length_map] using this))) rfl rfl rfl rfl rfl (Hr 1 tk rfl rfl rfl rfl tv (He 0 tk ek rfl rfl rfl rfl tv rfl rfl (Hn rfl (Lw q4 p4)))))
  ·refine WH.yvs rfl (LJ.Y.idxRel aA s6.2.2.2.2 (1:Int) tk rfl rfl rfl rfl rfl (al g17_5_1)) rfl rfl rfl rfl rfl (WH.fork ?_ (WH.fork ?_ ?_))
   ·refine WH.yvs rfl (LJ.Y.idxRel aA s6.2.2.2.2 (0:Int) tk rfl rfl rfl rfl rfl (al g17_2_1)) rfl rfl rfl rfl rfl (WH.fork ?_ (WH.fork ?_ ?_))
    ·refine WH.yvs rfl (LJ.Y.loadRel aA s6.2.2.2.2 (0:Int) 0 rfl rfl (fun _=>rfl) rfl (by kernel_rfl) rfl (by first | exact al g17_2_1 | (have:=al g17_2_1;simpa only [List.length_set,List.length_map] using this))) rfl rfl rfl rfl rfl (WH.fork ?_ ?_)
     ·exact WH.yvs rfl (LJ.Y.loadRel aA s6.2.2.2.2 (1:Int) 0 rfl rfl (fun _=>rfl) rfl (by kernel_rfl) rfl (by first | exact al g17_5_1 | (have:=al g17_5_1;simpa only [List.length_set,List.length_map] using this))) rfl rfl rfl rfl rfl (Hr 1 tk rfl rfl rfl rfl tv (WH.alloc 114 tk rfl rfl rfl rfl rfl rfl (He 0 tk ek rfl rfl rfl rfl tv rfl rfl (Hn rfl (Lw q4 p4)))))
     ·exact WH.alloc 114 tk rfl rfl rfl rfl rfl rfl (WH.yvs rfl (LJ.Y.loadRel aA s6.2.2.2.2 (1:Int) 0 rfl rfl (fun _=>rfl) rfl (by kernel_rfl) rfl (by first | exact al g17_5_1 | (have:=al g17_5_1;simpa only [List.length_set,List.length_map] using this))) rfl rfl rfl rfl rfl (Hr 1 tk rfl rfl rfl rfl tv (He 0 tk ek rfl rfl rfl rfl tv rfl rfl (Hn rfl (Lw q4 p4)))))
    ·refine WH.yvs rfl (LJ.Y.loadRel aA s6.2.2.2.2 (1:Int) 0 rfl rfl (fun _=>rfl) rfl (by kernel_rfl) rfl (by first | exact al g17_5_1 | (have:=al g17_5_1;simpa only [List.length_set,List.length_map] using this))) rfl rfl rfl rfl rfl (WH.fork ?_ ?_)
     ·exact WH.yvs rfl (LJ.Y.loadRel aA s6.2.2.2.2 (0:Int) 0 rfl rfl (fun _=>rfl) rfl (by kernel_rfl) rfl (by first | exact al g17_2_1 | (have:=al g17_2_1;simpa only [List.length_set,List.length_map] using this))) rfl rfl rfl rfl rfl (Hr 1 tk rfl rfl rfl rfl tv (WH.alloc 114 tk rfl rfl rfl rfl rfl rfl (He 0 tk ek rfl rfl rfl rfl tv rfl rfl (Hn rfl (Lw q4 p4)))))
     ·exact WH.alloc 114 tk rfl rfl rfl rfl rfl rfl (WH.yvs rfl (LJ.Y.loadRel aA s6.2.2.2.2 (0:Int) 0 rfl rfl (fun _=>rfl) rfl (by kernel_rfl) rfl (by first | exact al g17_2_1 | (have:=al g17_2_1;simpa only [List.length_set,List.length_map] using this))) rfl rfl rfl rfl rfl (Hr 1 tk rfl rfl rfl rfl tv (He 0 tk ek rfl rfl rfl rfl tv rfl rfl (Hn rfl (Lw q4 p4)))))
    ·refine WH.alloc 114 tk rfl rfl rfl rfl rfl rfl (WH.fork ?_ ?_)
     ·exact WH.yvs rfl (LJ.Y.loadRel aA s6.2.2.2.2 (0:Int) 0 rfl rfl (fun _=>rfl) rfl (by kernel_rfl) rfl (by first | exact al g17_2_1 | (have:=al g17_2_1;simpa only [List.length_set,List.length_map] using this))) rfl rfl rfl rfl rfl (WH.yvs rfl (LJ.Y.loadRel aA s6.2.2.2.2 (1:Int) 0 rfl rfl (fun _=>rfl) rfl (by kernel_rfl) rfl (by first | exact al g17_5_1 | (have:=al g17_5_1;simpa only [List.length_set,List.length_map] using this))) rfl rfl rfl rfl rfl (Hr 1 tk rfl rfl rfl rfl tv (He 0 tk ek rfl rfl rfl rfl tv rfl rfl (Hn rfl (Lw q4 p4)))))
     ·exact WH.yvs rfl (LJ.Y.loadRel aA s6.2.2.2.2 (1:Int) 0 rfl rfl (fun _=>rfl) rfl (by kernel_rfl) rfl (by first | exact al g17_5_1 | (have:=al g17_5_1;simpa only [List.length_set,List.length_map] using this))) rfl rfl rfl rfl rfl (WH.yvs rfl (LJ.Y.loadRel aA s6.2.2.2.2 (0:Int) 0 rfl rfl (fun _=>rfl) rfl (by kernel_rfl) rfl (by first | exact al g17_2_1 | (have:=al g17_2_1;simpa only [List.length_set,List.length_map] using this))) rfl rfl rfl rfl rfl (Hr 1 tk rfl rfl rfl rfl tv (He 0 tk ek rfl rfl rfl rfl tv rfl rfl (Hn rfl (Lw q4 p4)))))
   ·refine WH.yvs rfl (LJ.Y.loadRel aA s6.2.2.2.2 (1:Int) 0 rfl rfl (fun _=>rfl) rfl (by kernel_rfl) rfl (by first | exact al g17_5_1 | (have:=al g17_5_1;simpa only [List.length_set,List.length_map] using this))) rfl rfl rfl rfl rfl (WH.fork ?_ ?_)
    ·refine WH.yvs rfl (LJ.Y.idxRel aA s6.2.2.2.2 (0:Int) tk rfl rfl rfl rfl rfl (al g17_2_1)) rfl rfl rfl rfl rfl (WH.fork ?_ ?_)
     ·exact WH.yvs rfl (LJ.Y.loadRel aA s6.2.2.2.2 (0:Int) 0 rfl rfl (fun _=>rfl) rfl (by kernel_rfl) rfl (by first | exact al g17_2_1 | (have:=al g17_2_1;simpa only [List.length_set,List.length_map] using this))) rfl rfl rfl rfl rfl (Hr 1 tk rfl rfl rfl rfl tv (WH.alloc 114 tk rfl rfl rfl rfl rfl rfl (He 0 tk ek rfl rfl rfl rfl tv rfl rfl (Hn rfl (Lw q4 p4)))))
     ·exact WH.alloc 114 tk rfl rfl rfl rfl rfl rfl (WH.yvs rfl (LJ.Y.loadRel aA s6.2.2.2.2 (0:Int) 0 rfl rfl (fun _=>rfl) rfl (by kernel_rfl) rfl (by first | exact al g17_2_1 | (have:=al g17_2_1;simpa only [List.length_set,List.length_map] using this))) rfl rfl rfl rfl rfl (Hr 1 tk rfl rfl rfl rfl tv (He 0 tk ek rfl rfl rfl rfl tv rfl rfl (Hn rfl (Lw q4 p4)))))
    ·exact WH.alloc 114 tk rfl rfl rfl rfl rfl rfl (WH.yvs rfl (LJ.Y.idxRel aA s6.2.2.2.2 (0:Int) tk rfl rfl rfl rfl rfl (al g17_2_1)) rfl rfl rfl rfl rfl (WH.yvs rfl (LJ.Y.loadRel aA s6.2.2.2.2 (0:Int) 0 rfl rfl (fun _=>rfl) rfl (by kernel_rfl) rfl (by first | exact al g17_2_1 | (have:=al g17_2_1;simpa only [List.length_set,List.length_map] using this))) rfl rfl rfl rfl rfl (Hr 1 tk rfl rfl rfl rfl tv (He 0 tk ek rfl rfl rfl rfl tv rfl rfl (Hn rfl (Lw q4 p4))))))
   ·refine WH.alloc 114 tk rfl rfl rfl rfl rfl rfl (WH.fork ?_ ?_)
    ·refine WH.yvs rfl (LJ.Y.idxRel aA s6.2.2.2.2 (0:Int) tk rfl rfl rfl rfl rfl (al g17_2_1)) rfl rfl rfl rfl rfl (WH.fork ?_ ?_)
     ·exact WH.yvs rfl (LJ.Y.loadRel aA s6.2.2.2.2 (0:Int) 0 rfl rfl (fun _=>rfl) rfl (by kernel_rfl) rfl (by first | exact al g17_2_1 | (have:=al g17_2_1;simpa only [List.length_set,List.length_map] using this))) rfl rfl rfl rfl rfl (WH.yvs rfl (LJ.Y.loadRel aA s6.2.2.2.2 (1:Int) 0 rfl rfl (fun _=>rfl) rfl (by kernel_rfl) rfl (by first | exact al g17_5_1 | (have:=al g17_5_1;simpa only [List.length_set,List.length_map] using this))) rfl rfl rfl rfl rfl (Hr 1 tk rfl rfl rfl rfl tv (He 0 tk ek rfl rfl rfl rfl tv rfl rfl (Hn rfl (Lw q4 p4)))))
     ·exact WH.yvs rfl (LJ.Y.loadRel aA s6.2.2.2.2 (1:Int) 0 rfl rfl (fun _=>rfl) rfl (by kernel_rfl) rfl (by first | exact al g17_5_1 | (have:=al g17_5_1;simpa only [List.length_set,List.length_map] using this))) rfl rfl rfl rfl rfl (WH.yvs rfl (LJ.Y.loadRel aA s6.2.2.2.2 (0:Int) 0 rfl rfl (fun _=>rfl) rfl (by kernel_rfl) rfl (by first | exact al g17_2_1 | (have:=al g17_2_1;simpa only [List.length_set,List.length_map] using this))) rfl rfl rfl rfl rfl (Hr 1 tk rfl rfl rfl rfl tv (He 0 tk ek rfl rfl rfl rfl tv rfl rfl (Hn rfl (Lw q4 p4)))))
    ·exact WH.yvs rfl (LJ.Y.loadRel aA s6.2.2.2.2 (1:Int) 0 rfl rfl (fun _=>rfl) rfl (by kernel_rfl) rfl (by first | exact al g17_5_1 | (have:=al g17_5_1;simpa only [List.length_set,List.length_map] using this))) rfl rfl rfl rfl rfl (WH.yvs rfl (LJ.Y.idxRel aA s6.2.2.2.2 (0:Int) tk rfl rfl rfl rfl rfl (al g17_2_1)) rfl rfl rfl rfl rfl (WH.yvs rfl (LJ.Y.loadRel aA s6.2.2.2.2 (0:Int) 0 rfl rfl (fun _=>rfl) rfl (by kernel_rfl) rfl (by first | exact al g17_2_1 | (have:=al g17_2_1;simpa only [List.length_set,List.length_map] using this))) rfl rfl rfl rfl rfl (Hr 1 tk rfl rfl rfl rfl tv (He 0 tk ek rfl rfl rfl rfl tv rfl rfl (Hn rfl (Lw q4 p4))))))
  ·refine WH.alloc 114 tk rfl rfl rfl rfl rfl rfl (WH.fork ?_ ?_)
   ·refine WH.yvs rfl (LJ.Y.idxRel aA s6.2.2.2.2 (0:Int) tk rfl rfl rfl rfl rfl (al g17_2_1)) rfl rfl rfl rfl rfl (WH.fork ?_ ?_)
    ·exact WH.yvs rfl (LJ.Y.loadRel aA s6.2.2.2.2 (0:Int) 0 rfl rfl (fun _=>rfl) rfl (by kernel_rfl) rfl (by first | exact al g17_2_1 | (have:=al g17_2_1;simpa only [List.length_set,List.length_map] using this))) rfl rfl rfl rfl rfl (WH.yvs rfl (LJ.Y.idxRel aA s6.2.2.2.2 (1:Int) tk rfl rfl rfl rfl rfl (al g17_5_1)) rfl rfl rfl rfl rfl (WH.yvs rfl (LJ.Y.loadRel aA s6.2.2.2.2 (1:Int) 0 rfl rfl (fun _=>rfl) rfl (by kernel_rfl) rfl (by first | exact al g17_5_1 | (have:=al g17_5_1;simpa only [List.length_set,List.length_map] using this))) rfl rfl rfl rfl rfl (Hr 1 tk rfl rfl rfl rfl tv (He 0 tk ek rfl rfl rfl rfl tv rfl rfl (Hn rfl (Lw q4 p4))))))
    ·refine WH.yvs rfl (LJ.Y.idxRel aA s6.2.2.2.2 (1:Int) tk rfl rfl rfl rfl rfl (al g17_5_1)) rfl rfl rfl rfl rfl (WH.fork ?_ ?_)
     ·exact WH.yvs rfl (LJ.Y.loadRel aA s6.2.2.2.2 (0:Int) 0 rfl rfl (fun _=>rfl) rfl (by kernel_rfl) rfl (by first | exact al g17_2_1 | (have:=al g17_2_1;simpa only [List.length_set,List.length_map] using this))) rfl rfl rfl rfl rfl (WH.yvs rfl (LJ.Y.loadRel aA s6.2.2.2.2 (1:Int) 0 rfl rfl (fun _=>rfl) rfl (by kernel_rfl) rfl (by first | exact al g17_5_1 | (have:=al g17_5_1;simpa only [List.length_set,List.length_map] using this))) rfl rfl rfl rfl rfl (Hr 1 tk rfl rfl rfl rfl tv (He 0 tk ek rfl rfl rfl rfl tv rfl rfl (Hn rfl (Lw q4 p4)))))
     ·exact WH.yvs rfl (LJ.Y.loadRel aA s6.2.2.2.2 (1:Int) 0 rfl rfl (fun _=>rfl) rfl (by kernel_rfl) rfl (by first | exact al g17_5_1 | (have:=al g17_5_1;simpa only [List.length_set,List.length_map] using this))) rfl rfl rfl rfl rfl (WH.yvs rfl (LJ.Y.loadRel aA s6.2.2.2.2 (0:Int) 0 rfl rfl (fun _=>rfl) rfl (by kernel_rfl) rfl (by first | exact al g17_2_1 | (have:=al g17_2_1;simpa only [List.length_set,List.length_map] using this))) rfl rfl rfl rfl rfl (Hr 1 tk rfl rfl rfl rfl tv (He 0 tk ek rfl rfl rfl rfl tv rfl rfl (Hn rfl (Lw q4 p4)))))
   ·refine WH.yvs rfl (LJ.Y.idxRel aA s6.2.2.2.2 (1:Int) tk rfl rfl rfl rfl rfl (al g17_5_1)) rfl rfl rfl rfl rfl (WH.fork ?_ ?_)
    ·refine WH.yvs rfl (LJ.Y.idxRel aA s6.2.2.2.2 (0:Int) tk rfl rfl rfl rfl rfl (al g17_2_1)) rfl rfl rfl rfl rfl (WH.fork ?_ ?_)
     ·exact WH.yvs rfl (LJ.Y.loadRel aA s6.2.2.2.2 (0:Int) 0 rfl rfl (fun _=>rfl) rfl (by kernel_rfl) rfl (by first | exact al g17_2_1 | (have:=al g17_2_1;simpa only [List.length_set,List.length_map] using this))) rfl rfl rfl rfl rfl (WH.yvs rfl (LJ.Y.loadRel aA s6.2.2.2.2 (1:Int) 0 rfl rfl (fun _=>rfl) rfl (by kernel_rfl) rfl (by first | exact al g17_5_1 | (have:=al g17_5_1;simpa only [List.length_set,List.length_map] using this))) rfl rfl rfl rfl rfl (Hr 1 tk rfl rfl rfl rfl tv (He 0 tk ek rfl rfl rfl rfl tv rfl rfl (Hn rfl (Lw q4 p4)))))
     ·exact WH.yvs rfl (LJ.Y.loadRel aA s6.2.2.2.2 (1:Int) 0 rfl rfl (fun _=>rfl) rfl (by kernel_rfl) rfl (by first | exact al g17_5_1 | (have:=al g17_5_1;simpa only [List.length_set,List.length_map] using this))) rfl rfl rfl rfl rfl (WH.yvs rfl (LJ.Y.loadRel aA s6.2.2.2.2 (0:Int) 0 rfl rfl (fun _=>rfl) rfl (by kernel_rfl) rfl (by first | exact al g17_2_1 | (have:=al g17_2_1;simpa only [List.length_set,List.length_map] using this))) rfl rfl rfl rfl rfl (Hr 1 tk rfl rfl rfl rfl tv (He 0 tk ek rfl rfl rfl rfl tv rfl rfl (Hn rfl (Lw q4 p4)))))
    ·exact WH.yvs rfl (LJ.Y.loadRel aA s6.2.2.2.2 (1:Int) 0 rfl rfl (fun _=>rfl) rfl (by kernel_rfl) rfl (by first | exact al g17_5_1 | (have:=al g17_5_1;simpa only [List.length_set,List.length_map] using this))) rfl rfl rfl rfl rfl (WH.yvs rfl (LJ.Y.idxRel aA s6.2.2.2.2 (0:Int) tk rfl rfl rfl rfl rfl (al g17_2_1)) rfl rfl rfl rfl rfl (WH.yvs rfl (LJ.Y.loadRel aA s6.2.2.2.2 (0:Int) 0 rfl rfl (fun _=>rfl) rfl (by kernel_rfl) rfl (by first | exact al g17_2_1 | (have:=al g17_2_1;simpa only [List.length_set,List.length_map] using this))) rfl rfl rfl rfl rfl (Hr 1 tk rfl rfl rfl rfl tv (He 0 tk ek rfl rfl rfl rfl tv rfl rfl (Hn rfl (Lw q4 p4))))))
 ·refine Qn (Ws (G (R 1 rfl ?_)))
  obtain ⟨x17,hx17,H⟩:=an H
  refine Cl [] (nM _ hx17) nN rfl tv rfl (R 1 rfl (N (R 2 rfl (NQ (Wd rfl H (fun H=>?_) (fun H=>?_))))))
  ·refine Ws (Hp (.one 0 true (.one 1 true (.one 2 true (.one 3 false (.one 4 false (.one 5 true .done)))))) [102,103,106,114] [106,114] rfl (by kernel_rfl) rfl (by kernel_rfl) rfl rfl (fun _ h=>h) rfl rfl rfl (fun _ _ _ h=>h) fun FK NK wK K=>(Hr 3 tk rfl rfl rfl rfl tv (He 0 tk ek rfl rfl rfl rfl tv rfl rfl (He 0 tk ek rfl rfl rfl rfl tv rfl rfl (Hr 1 tk rfl rfl rfl rfl tv (WH.nil rfl (Qn (Wt (QT.r ?_)))))))))
   cases H
   exact Ends.autoC tk rfl rfl rfl tv
  refine Wk (Qn (Ws (Hp (.one 0 true (.one 1 true (.one 2 false (.one 3 false (.one 4 true .done))))) [102,103,106,114] [106,114] rfl (by kernel_rfl) rfl (by kernel_rfl) rfl rfl (fun _ h=>h) rfl rfl rfl (fun _ _ _ h=>h) fun FK NK wK K=>(Hr 2 tk rfl rfl rfl rfl tv (He 0 tk ek rfl rfl rfl rfl tv rfl rfl (He 0 tk ek rfl rfl rfl rfl tv rfl rfl (Hr 1 tk rfl rfl rfl rfl tv (WH.nil rfl (Qn (Wt ?_))))))))))
  cases H
  exact Ends.autoC tk rfl rfl rfl tv
theorem vn:aF Tryz.prog 99 Tryz.f99:=⟨Tryz.func99,rfl,by kernel_rfl⟩
theorem oz (a0:au) {r:aq×au×Int} (H:fm a0=some r):LJ.Spec Tryz.prog 72 [.d (.agg [.str a0.S, .int .i64 a0.At, .int .i64 a0.Err])] [] (.tup [.d (.agg [.int .i64 r.1.Args, .int .i64 r.1.Locals,slT aE r.1.Code]), .d (.agg [.str r.2.1.S, .int .i64 r.2.1.At, .int .i64 r.2.1.Err]), .d (.int .i64 r.2.2)]) []:=by
 refine LJ.Spec.code Tryz.func72 rfl 77 rfl rfl [] rfl fun w0 F0 S0 B0=>?_
 unfold fm at H
 refine G (Ef 101 rfl (Wa 102 tk rfl rfl rfl (Wa 103 tk rfl rfl rfl (R 1 rfl (N (R 1 rfl ?_))))))
 obtain ⟨x1,hx1,H⟩:=an H
 refine Cl [] (bW _ hx1) bX rfl tv rfl (R 3 rfl (Wa 106 tk rfl rfl rfl (R 1 rfl (Ef 0 rfl (N (R 1 rfl ?_))))))
 obtain ⟨x2,hx2,H⟩:=an H
 refine Cl [] (bW _ hx2) bX rfl tv rfl (R 3 rfl (Wa 108 tk rfl rfl rfl (R 1 rfl (Ef 0 rfl (N (R 1 rfl (WL.yv (LJ.Y.min rfl rfl rfl) rfl rfl rfl (R 2 rfl (WL.yv (LJ.Y.min rfl rfl rfl) rfl rfl rfl (R 2 rfl (Wa 109 tk rfl rfl rfl (Ef 0 rfl (N (R 1 rfl ?_))))))))))))))
 obtain ⟨x3,hx3,H⟩:=an H
 refine Cl [] (lN _ _ hx3) lO rfl tv rfl (R 4 rfl (Wa 111 tk rfl rfl rfl (R 1 rfl (Ef 0 rfl (R 1 rfl (NS (G (R 3 rfl (NQ (Wd rfl H (fun H=>?_) (fun H=>?_)))))))))))
 ·refine Ws (Hp (.one 0 true (.one 1 true (.one 2 true (.one 3 true (.one 4 false (.one 5 false (.one 6 true .done))))))) [101,102,103,106,108,109,111] [101,106,108,109,111] rfl (by kernel_rfl) rfl (by kernel_rfl) rfl rfl (fun _ h=>h) rfl rfl rfl (fun _ _ _ h=>h) fun FK NK wK K=>(Hr 4 tk rfl rfl rfl rfl tv (He 0 tk ek rfl rfl rfl rfl tv rfl rfl (He 0 tk ek rfl rfl rfl rfl tv rfl rfl (Hr 1 tk rfl rfl rfl rfl tv (WH.nil rfl (Qn (WC.nilF 102 2 6022 100 3 rfl (WC.row 6022 (([]:List ar).map aE) rfl rfl rfl (WC.freezeT 6022 aE ([]:List ar) rfl rfl rfl rfl (Wt (QT.r ?_))))))))))))
  cases H
  exact Ends.autoC tk rfl rfl rfl tv
 refine Wk (Qn (Ws (G (R 2 rfl (NQ (Wd rfl H (fun H=>?_) (fun H=>?_)))))))
 ·refine Ws (Hp (.one 0 true (.one 1 true (.one 2 true (.one 3 false (.one 4 false (.one 5 true .done)))))) [101,102,103,106,108,109,111] [101,106,108,109,111] rfl (by kernel_rfl) rfl (by kernel_rfl) rfl rfl (fun _ h=>h) rfl rfl rfl (fun _ _ _ h=>h) fun FK NK wK K=>(Hr 3 tk rfl rfl rfl rfl tv (He 0 tk ek rfl rfl rfl rfl tv rfl rfl (He 0 tk ek rfl rfl rfl rfl tv rfl rfl (Hr 1 tk rfl rfl rfl rfl tv (WH.nil rfl (Qn (WC.nilF 102 2 6022 100 3 rfl (WC.row 6022 (([]:List ar).map aE) rfl rfl rfl (WC.freezeT 6022 aE ([]:List ar) rfl rfl rfl rfl (Wt (QT.r ?_))))))))))))
  cases H
  exact Ends.autoC tk rfl rfl rfl tv
 refine Wk (Qn (Ws (G (R 1 rfl (NQ (Wb (WC.nilF 109 2 1069 100 3 rfl (Wl (ι:= {x:Nat×(Int×ByteArray×Int×Int×(List ar)) //cF x1 x2 x3 x.1 x.2=some r}) (fun x=>[(2, .ptr 102 0),(3, .ptr 103 0),(9, .ptr 109 0),(10, .d (.int .i64 x3.1)),(11, .ptr 111 0),(13, .d (.int .i64 x.1.2.1))]) (fun x=>[(102, .box 98 [.d (.int .i64 0), .d (.int .i64 0), .d (.nils)]),(103, .box 83 [.d (.str ByteArray.empty), .d (.int .i64 0), .d (.int .i64 0)]),(109, .box 98 [.d (.int .i64 (IntKind.i64.wrap (iMin x1.1 (2147483648:Int)))), .d (.int .i64 (IntKind.i64.wrap (iMin x2.1 (2147483648:Int)))), .own 1069]),(111, .box 83 [.d (.str x.1.2.2.1), .d (.int .i64 x.1.2.2.2.1), .d (.int .i64 x.1.2.2.2.2.1)]),(1069, .row 100 3 (x.1.2.2.2.2.2.map aE))]) (fun x=>x.1.1) ⟨(fuel,(0,x3.2.1.S,x3.2.1.At,x3.2.1.Err,([]:List ar))),H⟩ (Lm p6 p5) fun x=>?_))))))))
 obtain ⟨⟨k8,s7⟩,H⟩:=x
 rcases k8 with _ | k8
 ·exact aO H
 rw [cF] at H
 refine Ws (G (R 3 rfl (NQ (Wd rfl H (fun H=>?_) (fun H=>?_)))))
 ·refine Wk (Qn (Ws (Wb (G (R 1 rfl ?_)))))
  obtain ⟨x10,hx10,H⟩:=an H
  refine Cl [] (vm _ hx10) vn rfl tv rfl (R 4 rfl (Wa 114 tk rfl rfl rfl (Wa 115 tk rfl rfl rfl (Ef 0 rfl (Ef 0 rfl (R 1 rfl (NS (G (R 2 rfl (NQ (Wd rfl H (fun H=>?_) (fun H=>?_))))))))))))
  ·refine Ws (Hp (.one 1 true (.one 2 true (.one 0 false (.one 3 false (.one 4 false (.one 5 true .done)))))) [102,103,109,111,114,115] [109,111,114,115] rfl (by kernel_rfl) rfl (by kernel_rfl) rfl rfl (fun _ h=>h) rfl rfl rfl (fun _ _ _ h=>h) fun FK NK wK K=>(Hr 2 tk rfl rfl rfl rfl tv (WH.freezeT 1069 aE s7.2.2.2.2 rfl rfl rfl rfl (WH.val tk rfl rfl rfl rfl rfl tv rfl rfl (He 0 tk ek rfl rfl rfl rfl tv rfl rfl (He 0 tk ek rfl rfl rfl rfl tv rfl rfl (Hr 1 tk rfl rfl rfl rfl tv (WH.nil rfl (Qn (Wt (QT.r (QB.r (QT.r (QT.r (QB.r (QT.r ?_))))))))))))))))
   cases H
   exact Ends.autoC tk rfl rfl rfl tv
  refine Wk (Qn ?_)
  obtain ⟨g15_4_1,H⟩:=ay H
  refine WC.heldF [(2, .ptr 102 0),(3, .ptr 103 0),(9, .ptr 109 0),(10, .d (.int .i64 x3.1)),(11, .ptr 111 0),(13, .d (.int .i64 s7.1))] [(102, .box 98 [.d (.int .i64 0), .d (.int .i64 0), .d (.nils)]),(103, .box 83 [.d (.str ByteArray.empty), .d (.int .i64 0), .d (.int .i64 0)]),(109, .box 98 [.d (.int .i64 (IntKind.i64.wrap (iMin x1.1 (2147483648:Int)))), .d (.int .i64 (IntKind.i64.wrap (iMin x2.1 (2147483648:Int)))), .own 1069]),(111, .box 83 [.d (.str x10.2.1.S), .d (.int .i64 x10.2.1.At), .d (.int .i64 x10.2.1.Err)]),(1069, .row 100 3 ((s7.2.2.2.2++([x10.1]:List ar)).map aE))] (sT 0 (sT 2 (sT 5 (fk (sf 1 (sf 3 (sf 4 (sT 6 (sf 7 (sf 8 sd)))))) (sf 3 (sf 1 (sf 4 (sT 6 (sf 7 (sf 8 sd)))))))))) [102,103,109,111,114,115] [102,103,114,115] rfl (by kernel_rfl) rfl (by kernel_rfl) rfl rfl (fun _ h=>h) rfl rfl rfl (fun FK NK wK K=>?_) ?_
  ·refine Hr 3 tk rfl rfl rfl rfl tv (WH.fork ?_ ?_)
   ·refine WH.val tk rfl rfl rfl rfl rfl tv rfl rfl (He 171 tk ek rfl rfl rfl rfl tv rfl rfl (WH.freezeT 171 aE ([x10.1]:List ar) rfl rfl rfl rfl (WH.appT aE s7.2.2.2.2 ([x10.1]:List ar) tk ek rfl rfl (fun _=>rfl) (fun _=>rfl) rfl rfl rfl rfl rfl (bQ g15_4_1) rfl rfl rfl rfl rfl rfl rfl ?_)))
    exact Hr 1 tk rfl rfl rfl rfl tv (He 0 tk ek rfl rfl rfl rfl tv rfl rfl (He 0 tk ek rfl rfl rfl rfl tv rfl rfl (Hn rfl (Lw q6 p5))))
   ·refine He 171 tk ek rfl rfl rfl rfl tv rfl rfl (WH.freezeT 171 aE ([x10.1]:List ar) rfl rfl rfl rfl (WH.val tk rfl rfl rfl rfl rfl tv rfl rfl (WH.appT aE s7.2.2.2.2 ([x10.1]:List ar) tk ek rfl rfl (fun _=>rfl) (fun _=>rfl) rfl rfl rfl rfl rfl (bQ g15_4_1) rfl rfl rfl rfl rfl rfl rfl ?_)))
    exact Hr 1 tk rfl rfl rfl rfl tv (He 0 tk ek rfl rfl rfl rfl tv rfl rfl (He 0 tk ek rfl rfl rfl rfl tv rfl rfl (Hn rfl (Lw q6 p5))))
  ·refine Qb (Qn ?_)
   exact Wg (R 3 rfl (NQ (⟨⟨(k8,(IntKind.i64.wrap (s7.1+1),x10.2.1.S,x10.2.1.At,x10.2.1.Err,s7.2.2.2.2++([x10.1]:List ar))),H⟩,Z,Lm p6 p5⟩)))
 refine WC.exit (Qx (Qx (Qh (Qn ?_))))
 refine Ws (Hp (.one 1 true (.one 0 false (.one 2 false (.one 3 false (.one 4 true .done))))) [102,103,109,111] [109,111] rfl (by kernel_rfl) rfl (by kernel_rfl) rfl rfl (fun _ h=>h) rfl rfl rfl (fun _ _ _ h=>h) fun FK NK wK K=>(Hr 1 tk rfl rfl rfl rfl tv (WH.freezeT 1069 aE s7.2.2.2.2 rfl rfl rfl rfl (WH.val tk rfl rfl rfl rfl rfl tv rfl rfl (He 0 tk ek rfl rfl rfl rfl tv rfl rfl (He 0 tk ek rfl rfl rfl rfl tv rfl rfl (Hr 1 tk rfl rfl rfl rfl tv (WH.nil rfl (Qn (Wt ?_))))))))))
 cases H
 exact Ends.autoC tk rfl rfl rfl tv
theorem oA:aF Tryz.prog 72 Tryz.f72:=⟨Tryz.func72,rfl,by kernel_rfl⟩
theorem wQ (a0:ByteArray) {r:ah×Int} (H:lx a0=some r):LJ.Spec Tryz.prog 39 [.d (.str a0)] [] (.tup [.d (.agg [slT ai r.1.Decls,slT aa r.1.Waits,slT ak r.1.Funcs]), .d (.int .i64 r.2)]) []:=by
 refine LJ.Spec.code Tryz.func39 rfl 124 rfl rfl [] rfl fun w0 F0 S0 B0=>?_
 unfold lx at H
 refine G (Wa 102 tk rfl rfl rfl (R 1 rfl (N (R 2 rfl (Wa 104 tk rfl rfl rfl (Wa 105 tk rfl rfl rfl (Ef 0 rfl (Ef 0 rfl (NS (G (R 4 rfl ?_)))))))))))
 obtain ⟨g1,H⟩:=e9 H
 refine Wx 3 3 false tk sg0 rfl rfl (fun hb=>⟨(qh (g1 hb)),tv⟩) (RS 1 rfl ⟨by first | exact id | exact fun h=>by rw [h];rfl | simp_all,tv⟩ (NQ (Wd rfl H (fun H=>?_) (fun H=>?_))))
 ·refine G (R 1 rfl (Ef 0 rfl (R 1 rfl (NQ (WC.nilF 102 0 6020 93 3 rfl (WC.row 6020 (([]:List ab).map ai) rfl rfl rfl (WC.nilF 102 1 6021 94 1 rfl (WC.row 6021 (([]:List (List (List af))).map aa) rfl rfl rfl (WC.nilF 102 2 6022 98 3 rfl (WC.row 6022 (([]:List aq).map ak) rfl rfl rfl (WC.freezeT 6020 ai ([]:List ab) rfl rfl rfl rfl (WC.freezeT 6021 aa ([]:List (List (List af))) rfl rfl rfl rfl (WC.freezeT 6022 ak ([]:List aq) rfl rfl rfl rfl (Wt (QT.r ?_)))))))))))))))
  cases H
  exact Ends.autoC tk rfl rfl rfl tv
 refine Wk (Qn (G (R 2 rfl ?_)))
 obtain ⟨x3,hx3,H⟩:=an H
 refine Cl [] (vi _ hx3) vj rfl tv rfl (R 4 rfl (Wa 107 tk rfl rfl rfl (R 1 rfl (Ef 0 rfl (R 1 rfl (NS (G (R 2 rfl (NQ (Wd rfl H (fun H=>?_) (fun H=>?_)))))))))))
 ·refine G (R 2 rfl (Ef 0 rfl (R 1 rfl (NQ (WC.nilF 102 0 6020 93 3 rfl (WC.row 6020 (([]:List ab).map ai) rfl rfl rfl (WC.nilF 102 1 6021 94 1 rfl (WC.row 6021 (([]:List (List (List af))).map aa) rfl rfl rfl (WC.nilF 102 2 6022 98 3 rfl (WC.row 6022 (([]:List aq).map ak) rfl rfl rfl (WC.freezeT 6020 ai ([]:List ab) rfl rfl rfl rfl (WC.freezeT 6021 aa ([]:List (List (List af))) rfl rfl rfl rfl (WC.freezeT 6022 ak ([]:List aq) rfl rfl rfl rfl (Wt (QT.r ?_)))))))))))))))
  cases H
  exact Ends.autoC tk rfl rfl rfl tv
 refine Wk (Qn (G (R 2 rfl (Ef 0 rfl (N (R 1 rfl ?_))))))
 obtain ⟨x5,hx5,H⟩:=an H
 refine Cl [] (lN _ _ hx5) lO rfl tv rfl (R 4 rfl (Wa 110 tk rfl rfl rfl (R 1 rfl (Ef 0 rfl (R 1 rfl (NS (G (R 2 rfl (NQ (Wd rfl H (fun H=>?_) (fun H=>?_)))))))))))
 ·refine G (R 2 rfl (Ef 0 rfl (R 1 rfl (NQ (WC.nilF 102 0 6020 93 3 rfl (WC.row 6020 (([]:List ab).map ai) rfl rfl rfl (WC.nilF 102 1 6021 94 1 rfl (WC.row 6021 (([]:List (List (List af))).map aa) rfl rfl rfl (WC.nilF 102 2 6022 98 3 rfl (WC.row 6022 (([]:List aq).map ak) rfl rfl rfl (WC.freezeT 6020 ai ([]:List ab) rfl rfl rfl rfl (WC.freezeT 6021 aa ([]:List (List (List af))) rfl rfl rfl rfl (WC.freezeT 6022 ak ([]:List aq) rfl rfl rfl rfl (Wt (QT.r ?_)))))))))))))))
  cases H
  exact Ends.autoC tk rfl rfl rfl tv
 refine Wk (Qn (Ws (G (R 1 rfl (NQ (Wb (WC.nilF 105 1 1073 94 1 rfl (Wl (ι:= {x:Nat×(Int×ByteArray×Int×Int×(List (List (List af)))) //fp a0 x3 x5 x.1 x.2=some r}) (fun x=>[(0, .d (.str a0)),(2, .ptr 102 0),(4, .ptr 104 0),(5, .ptr 105 0),(9, .d (.int .i64 x5.1)),(10, .ptr 110 0),(12, .d (.int .i64 x.1.2.1))]) (fun x=>[(102, .box 28 [.d (.nils), .d (.nils), .d (.nils)]),(104, .box 28 [.d (.nils), .d (.nils), .d (.nils)]),(105, .box 28 [.d (slT ai x3.1), .own 1073, .d (.nils)]),(110, .box 83 [.d (.str x.1.2.2.1), .d (.int .i64 x.1.2.2.2.1), .d (.int .i64 x.1.2.2.2.2.1)]),(1073, .row 94 1 (x.1.2.2.2.2.2.map aa))]) (fun x=>x.1.1) ⟨(fuel,(0,x5.2.1.S,x5.2.1.At,x5.2.1.Err,([]:List (List (List af))))),H⟩ (Lm p7 p5) fun x=>?_))))))))
 obtain ⟨⟨k9,s8⟩,H⟩:=x
 rcases k9 with _ | k9
 ·exact aO H
 rw [fp] at H
 refine Ws (G (R 3 rfl (NQ (Wd rfl H (fun H=>?_) (fun H=>?_)))))
 ·refine Wk (Qn (Ws (Wb (G (R 3 rfl ?_)))))
  obtain ⟨x11,hx11,H⟩:=an H
  refine Cl [] (vk _ _ hx11) vl rfl tv rfl (R 4 rfl (Wa 114 tk rfl rfl rfl (R 1 rfl (Ef 0 rfl (R 1 rfl (NS (G (R 2 rfl (NQ (Wd rfl H (fun H=>?_) (fun H=>?_)))))))))))
  ·refine G (R 2 rfl (Ef 0 rfl (R 1 rfl (NQ (WC.nilF 102 0 6020 93 3 rfl (WC.row 6020 (([]:List ab).map ai) rfl rfl rfl (WC.nilF 102 1 6021 94 1 rfl (WC.row 6021 (([]:List (List (List af))).map aa) rfl rfl rfl (WC.nilF 102 2 6022 98 3 rfl (WC.row 6022 (([]:List aq).map ak) rfl rfl rfl (WC.freezeT 6020 ai ([]:List ab) rfl rfl rfl rfl (WC.freezeT 6021 aa ([]:List (List (List af))) rfl rfl rfl rfl (WC.freezeT 6022 ak ([]:List aq) rfl rfl rfl rfl (Wt (QT.r (QB.r (QT.r (QT.r (QB.r (QT.r ?_))))))))))))))))))))
   cases H
   exact Ends.autoC tk rfl rfl rfl tv
  refine Wk (Qn ?_)
  obtain ⟨g17_4_1,H⟩:=ay H
  refine WC.heldF [(0, .d (.str a0)),(2, .ptr 102 0),(4, .ptr 104 0),(5, .ptr 105 0),(9, .d (.int .i64 x5.1)),(10, .ptr 110 0),(12, .d (.int .i64 s8.1))] [(102, .box 28 [.d (.nils), .d (.nils), .d (.nils)]),(104, .box 28 [.d (.nils), .d (.nils), .d (.nils)]),(105, .box 28 [.d (slT ai x3.1), .own 1073, .d (.nils)]),(110, .box 83 [.d (.str x11.2.1.S), .d (.int .i64 x11.2.1.At), .d (.int .i64 x11.2.1.Err)]),(1073, .row 94 1 ((s8.2.2.2.2++([x11.1]:List (List (List af)))).map aa))] (sT 0 (sT 2 (sT 5 (fk (sf 1 (sf 3 (sf 4 (sT 6 (sf 7 (sf 8 sd)))))) (sf 3 (sf 1 (sf 4 (sT 6 (sf 7 (sf 8 sd)))))))))) [102,104,105,110,114] [102,104,114] rfl (by kernel_rfl) rfl (by kernel_rfl) rfl rfl (fun _ h=>h) rfl rfl rfl (fun FK NK wK K=>?_) ?_
  ·refine Hr 3 tk rfl rfl rfl rfl tv (WH.fork ?_ ?_)
   ·refine WH.val tk rfl rfl rfl rfl rfl tv rfl rfl (He 175 tk ek rfl rfl rfl rfl tv rfl rfl (WH.freezeT 175 aa ([x11.1]:List (List (List af))) rfl rfl rfl rfl (WH.appT aa s8.2.2.2.2 ([x11.1]:List (List (List af))) tk ek rfl rfl (fun _=>rfl) (fun _=>rfl) rfl rfl rfl rfl rfl (bQ g17_4_1) rfl rfl rfl rfl rfl rfl rfl ?_)))
    exact Hr 1 tk rfl rfl rfl rfl tv (He 0 tk ek rfl rfl rfl rfl tv rfl rfl (He 0 tk ek rfl rfl rfl rfl tv rfl rfl (Hn rfl (Lw q7 p5))))
   ·refine He 175 tk ek rfl rfl rfl rfl tv rfl rfl (WH.freezeT 175 aa ([x11.1]:List (List (List af))) rfl rfl rfl rfl (WH.val tk rfl rfl rfl rfl rfl tv rfl rfl (WH.appT aa s8.2.2.2.2 ([x11.1]:List (List (List af))) tk ek rfl rfl (fun _=>rfl) (fun _=>rfl) rfl rfl rfl rfl rfl (bQ g17_4_1) rfl rfl rfl rfl rfl rfl rfl ?_)))
    exact Hr 1 tk rfl rfl rfl rfl tv (He 0 tk ek rfl rfl rfl rfl tv rfl rfl (He 0 tk ek rfl rfl rfl rfl tv rfl rfl (Hn rfl (Lw q7 p5))))
  ·refine Qb (Qn ?_)
   exact Wg (R 3 rfl (NQ (⟨⟨(k9,(IntKind.i64.wrap (s8.1+1),x11.2.1.S,x11.2.1.At,x11.2.1.Err,s8.2.2.2.2++([x11.1]:List (List (List af))))),H⟩,Z,Lm p7 p5⟩)))
 refine WC.exit (Qx (Qx (Qh (Qn ?_))))
 refine G (R 1 rfl ?_)
 obtain ⟨x13,hx13,H⟩:=an H
 refine Cl [] (lN _ _ hx13) lO rfl tv rfl (R 5 rfl (Ef 0 rfl (R 1 rfl (NS (G (R 2 rfl (NQ (Wd rfl H (fun H=>?_) (fun H=>?_)))))))))
 ·refine G (R 2 rfl (Ef 0 rfl (R 1 rfl (NQ (WC.nilF 102 0 6020 93 3 rfl (WC.row 6020 (([]:List ab).map ai) rfl rfl rfl (WC.nilF 102 1 6021 94 1 rfl (WC.row 6021 (([]:List (List (List af))).map aa) rfl rfl rfl (WC.nilF 102 2 6022 98 3 rfl (WC.row 6022 (([]:List aq).map ak) rfl rfl rfl (WC.freezeT 6020 ai ([]:List ab) rfl rfl rfl rfl (WC.freezeT 6021 aa ([]:List (List (List af))) rfl rfl rfl rfl (WC.freezeT 6022 ak ([]:List aq) rfl rfl rfl rfl (Wt (QT.r ?_)))))))))))))))
  cases H
  exact Ends.autoC tk rfl rfl rfl tv
 refine Wk (Qn (Ws (G (R 1 rfl (NQ (Wb (WC.nilF 105 2 1105 98 3 rfl (Wl (ι:= {x:Nat×(Int×ByteArray×Int×Int×(List aq)) //eH a0 x3 s8 x13 x.1 x.2=some r}) (fun x=>[(0, .d (.str a0)),(2, .ptr 102 0),(4, .ptr 104 0),(5, .ptr 105 0),(9, .d (.int .i64 x13.1)),(10, .ptr 110 0),(16, .d (.int .i64 x.1.2.1))]) (fun x=>[(102, .box 28 [.d (.nils), .d (.nils), .d (.nils)]),(104, .box 28 [.d (.nils), .d (.nils), .d (.nils)]),(105, .box 28 [.d (slT ai x3.1), .own 1073, .own 1105]),(110, .box 83 [.d (.str x.1.2.2.1), .d (.int .i64 x.1.2.2.2.1), .d (.int .i64 x.1.2.2.2.2.1)]),(1073, .row 94 1 (s8.2.2.2.2.map aa)),(1105, .row 98 3 (x.1.2.2.2.2.2.map ak))]) (fun x=>x.1.1) ⟨(fuel,(0,x13.2.1.S,x13.2.1.At,x13.2.1.Err,([]:List aq))),H⟩ (Lm p7 p6) fun x=>?_))))))))
 obtain ⟨⟨k17,s16⟩,H⟩:=x
 rcases k17 with _ | k17
 ·exact aO H
 rw [eH] at H
 refine Ws (G (R 3 rfl (NQ (Wd rfl H (fun H=>?_) (fun H=>?_)))))
 ·refine Wk (Qn (Ws (Wb (G (R 1 rfl ?_)))))
  obtain ⟨x19,hx19,H⟩:=an H
  refine Cl [] (oz _ hx19) oA rfl tv rfl (R 4 rfl (Wa 117 tk rfl rfl rfl (Wa 118 tk rfl rfl rfl (Ef 0 rfl (Ef 0 rfl (R 1 rfl (NS (G (R 2 rfl (NQ (Wd rfl H (fun H=>?_) (fun H=>?_))))))))))))
  ·refine G (R 2 rfl (Ef 0 rfl (R 1 rfl (NQ (WC.nilF 102 0 6020 93 3 rfl (WC.row 6020 (([]:List ab).map ai) rfl rfl rfl (WC.nilF 102 1 6021 94 1 rfl (WC.row 6021 (([]:List (List (List af))).map aa) rfl rfl rfl (WC.nilF 102 2 6022 98 3 rfl (WC.row 6022 (([]:List aq).map ak) rfl rfl rfl (WC.freezeT 6020 ai ([]:List ab) rfl rfl rfl rfl (WC.freezeT 6021 aa ([]:List (List (List af))) rfl rfl rfl rfl (WC.freezeT 6022 ak ([]:List aq) rfl rfl rfl rfl (Wt (QT.r (QB.r (QT.r (QT.r (QB.r (QT.r ?_))))))))))))))))))))
   cases H
   exact Ends.autoC tk rfl rfl rfl tv
  refine Wk (Qn ?_)
  obtain ⟨g27_4_1,H⟩:=ay H
  refine WC.heldF [(0, .d (.str a0)),(2, .ptr 102 0),(4, .ptr 104 0),(5, .ptr 105 0),(9, .d (.int .i64 x13.1)),(10, .ptr 110 0),(16, .d (.int .i64 s16.1))] [(102, .box 28 [.d (.nils), .d (.nils), .d (.nils)]),(104, .box 28 [.d (.nils), .d (.nils), .d (.nils)]),(105, .box 28 [.d (slT ai x3.1), .own 1073, .own 1105]),(110, .box 83 [.d (.str x19.2.1.S), .d (.int .i64 x19.2.1.At), .d (.int .i64 x19.2.1.Err)]),(1073, .row 94 1 (s8.2.2.2.2.map aa)),(1105, .row 98 3 ((s16.2.2.2.2++([x19.1]:List aq)).map ak))] (sT 0 (sT 2 (sT 5 (fk (sf 1 (sf 3 (sf 4 (sT 6 (sf 7 (sf 8 sd)))))) (sf 3 (sf 1 (sf 4 (sT 6 (sf 7 (sf 8 sd)))))))))) [102,104,105,110,117,118] [102,104,117,118] rfl (by kernel_rfl) rfl (by kernel_rfl) rfl rfl (fun _ h=>h) rfl rfl rfl (fun FK NK wK K=>?_) ?_
  ·refine Hr 3 tk rfl rfl rfl rfl tv (WH.fork ?_ ?_)
   ·refine WH.val tk rfl rfl rfl rfl rfl tv rfl rfl (He 207 tk ek rfl rfl rfl rfl tv rfl rfl (WH.freezeT 207 ak ([x19.1]:List aq) rfl rfl rfl rfl (WH.appT ak s16.2.2.2.2 ([x19.1]:List aq) tk ek rfl rfl (fun _=>rfl) (fun _=>rfl) rfl rfl rfl rfl rfl (bQ g27_4_1) rfl rfl rfl rfl rfl rfl rfl ?_)))
    exact Hr 1 tk rfl rfl rfl rfl tv (He 0 tk ek rfl rfl rfl rfl tv rfl rfl (He 0 tk ek rfl rfl rfl rfl tv rfl rfl (Hn rfl (Lw q7 p6))))
   ·refine He 207 tk ek rfl rfl rfl rfl tv rfl rfl (WH.freezeT 207 ak ([x19.1]:List aq) rfl rfl rfl rfl (WH.val tk rfl rfl rfl rfl rfl tv rfl rfl (WH.appT ak s16.2.2.2.2 ([x19.1]:List aq) tk ek rfl rfl (fun _=>rfl) (fun _=>rfl) rfl rfl rfl rfl rfl (bQ g27_4_1) rfl rfl rfl rfl rfl rfl rfl ?_)))
    exact Hr 1 tk rfl rfl rfl rfl tv (He 0 tk ek rfl rfl rfl rfl tv rfl rfl (He 0 tk ek rfl rfl rfl rfl tv rfl rfl (Hn rfl (Lw q7 p6))))
  ·refine Qb (Qn ?_)
   exact Wg (R 3 rfl (NQ (⟨⟨(k17,(IntKind.i64.wrap (s16.1+1),x19.2.1.S,x19.2.1.At,x19.2.1.Err,s16.2.2.2.2++([x19.1]:List aq))),H⟩,Z,Lm p7 p6⟩)))
 refine WC.exit (Qx (Qx (Qh (Qn ?_))))
 refine Ws (G (R 5 rfl (NQ (Wd rfl H (fun H=>?_) (fun H=>?_)))))
 ·refine G (R 1 rfl (Ef 0 rfl (R 1 rfl (NQ (WC.nilF 102 0 6020 93 3 rfl (WC.row 6020 (([]:List ab).map ai) rfl rfl rfl (WC.nilF 102 1 6021 94 1 rfl (WC.row 6021 (([]:List (List (List af))).map aa) rfl rfl rfl (WC.nilF 102 2 6022 98 3 rfl (WC.row 6022 (([]:List aq).map ak) rfl rfl rfl (WC.freezeT 6020 ai ([]:List ab) rfl rfl rfl rfl (WC.freezeT 6021 aa ([]:List (List (List af))) rfl rfl rfl rfl (WC.freezeT 6022 ak ([]:List aq) rfl rfl rfl rfl (Wt (QT.r ?_)))))))))))))))
  cases H
  exact Ends.autoC tk rfl rfl rfl tv
 refine Wk (Qn (Ws (G (WL.freezeT 1073 aa s8.2.2.2.2 rfl rfl rfl rfl (WL.freezeT 1105 ak s16.2.2.2.2 rfl rfl rfl rfl (R 1 rfl ?_))))))
 obtain ⟨x22,hx22,H⟩:=an H
 refine Cl [] (nO _ hx22) nP rfl tv rfl (R 1 rfl (N (R 2 rfl (NQ (Wd rfl H (fun H=>?_) (fun H=>?_))))))
 ·refine G (R 2 rfl (Ef 0 rfl (R 1 rfl (NQ (WC.nilF 102 0 6020 93 3 rfl (WC.row 6020 (([]:List ab).map ai) rfl rfl rfl (WC.nilF 102 1 6021 94 1 rfl (WC.row 6021 (([]:List (List (List af))).map aa) rfl rfl rfl (WC.nilF 102 2 6022 98 3 rfl (WC.row 6022 (([]:List aq).map ak) rfl rfl rfl (WC.freezeT 6020 ai ([]:List ab) rfl rfl rfl rfl (WC.freezeT 6021 aa ([]:List (List (List af))) rfl rfl rfl rfl (WC.freezeT 6022 ak ([]:List aq) rfl rfl rfl rfl (Wt (QT.r ?_)))))))))))))))
  cases H
  exact Ends.autoC tk rfl rfl rfl tv
 refine Wk (Qn (G (R 1 rfl (Ef 0 rfl (R 1 rfl (NQ (Wt ?_)))))))
 cases H
 exact Ends.autoC tk rfl rfl rfl tv
theorem wR:aF Tryz.prog 39 Tryz.f39:=⟨Tryz.func39,rfl,by kernel_rfl⟩
theorem wS (a0:ByteArray) {r:aw×Int} (H:ly a0=some r):LJ.Spec Tryz.prog 16 [.d (.str a0)] [] (.tup [.d (.agg [.int .i64 r.1.Config.Mode, .int .i64 r.1.Config.Workers, .int .i64 r.1.Config.Quantum, .int .i64 r.1.Config.Policy,slT ai r.1.Program.Decls,slT aa r.1.Program.Waits,slT ak r.1.Program.Funcs,slT aC r.1.Events]), .d (.int .i64 r.2)]) []:=by
 refine LJ.Spec.code Tryz.func16 rfl 168 rfl rfl [] rfl fun w0 F0 S0 B0=>?_
 unfold ly at H
 refine G (Wa 102 tk rfl rfl rfl (R 1 rfl (N (R 1 rfl (Wa 104 tk rfl rfl rfl (Ef 0 rfl (NS (G (R 4 rfl ?_)))))))))
 obtain ⟨g1,H⟩:=e9 H
 refine Wx 3 3 false tk sg0 rfl rfl (fun hb=>⟨(qh (g1 hb)),tv⟩) (RS 1 rfl ⟨by first | exact id | exact fun h=>by rw [h];rfl | simp_all,tv⟩ (NQ (Wd rfl H (fun H=>?_) (fun H=>?_))))
 ·refine G (R 1 rfl (Ef 0 rfl (R 1 rfl (NQ (WC.nilF 102 4 6024 93 3 rfl (WC.row 6024 (([]:List ab).map ai) rfl rfl rfl (WC.nilF 102 5 6025 94 1 rfl (WC.row 6025 (([]:List (List (List af))).map aa) rfl rfl rfl (WC.nilF 102 6 6026 98 3 rfl (WC.row 6026 (([]:List aq).map ak) rfl rfl rfl (WC.nilF 102 7 6027 55 3 rfl (WC.row 6027 (([]:List av).map aC) rfl rfl rfl (WC.freezeT 6024 ai ([]:List ab) rfl rfl rfl rfl (WC.freezeT 6025 aa ([]:List (List (List af))) rfl rfl rfl rfl (WC.freezeT 6026 ak ([]:List aq) rfl rfl rfl rfl (WC.freezeT 6027 aC ([]:List av) rfl rfl rfl rfl (Wt (QT.r ?_))))))))))))))))))
  cases H
  exact Ends.autoC tk rfl rfl rfl tv
 refine Wk (Qn (G (R 2 rfl ?_)))
 obtain ⟨x3,hx3,H⟩:=an H
 refine Cl [] (kR _ hx3) kS rfl tv rfl (R 3 rfl (Wa 106 tk rfl rfl rfl (R 1 rfl (Ef 0 rfl (N (R 1 rfl ?_))))))
 obtain ⟨x4,hx4,H⟩:=an H
 refine Cl [] (kR _ hx4) kS rfl tv rfl (R 3 rfl (Wa 108 tk rfl rfl rfl (R 1 rfl (Ef 0 rfl (N (R 1 rfl ?_))))))
 obtain ⟨x5,hx5,H⟩:=an H
 refine Cl [] (kR _ hx5) kS rfl tv rfl (R 3 rfl (Wa 110 tk rfl rfl rfl (R 1 rfl (Ef 0 rfl (N (R 1 rfl ?_))))))
 obtain ⟨x6,hx6,H⟩:=an H
 refine Cl [] (kR _ hx6) kS rfl tv rfl (R 3 rfl (Wa 112 tk rfl rfl rfl (R 1 rfl (Ef 0 rfl (N (R 1 rfl ?_))))))
 obtain ⟨x7,hx7,H⟩:=an H
 refine Cl [] (tF _ hx7) tG rfl tv rfl (R 3 rfl (Wa 114 tk rfl rfl rfl (R 1 rfl (Ef 0 rfl (NS (G (R 3 rfl (NQ (Wd rfl H (fun H=>?_) (fun H=>?_))))))))))
 ·refine Ws (Hp (.one 0 true (.one 1 true (.one 2 true (.one 3 false (.one 4 true .done))))) [102,104,106,108,110,112,114] [104,106,108,110,112,114] rfl (by kernel_rfl) rfl (by kernel_rfl) rfl rfl (fun _ h=>h) rfl rfl rfl (fun _ _ _ h=>h) fun FK NK wK K=>(Hr 3 tk rfl rfl rfl rfl tv (He 0 tk ek rfl rfl rfl rfl tv rfl rfl (Hr 1 tk rfl rfl rfl rfl tv (WH.nil rfl (Qn (WC.nilF 102 4 6024 93 3 rfl (WC.row 6024 (([]:List ab).map ai) rfl rfl rfl (WC.nilF 102 5 6025 94 1 rfl (WC.row 6025 (([]:List (List (List af))).map aa) rfl rfl rfl (WC.nilF 102 6 6026 98 3 rfl (WC.row 6026 (([]:List aq).map ak) rfl rfl rfl (WC.nilF 102 7 6027 55 3 rfl (WC.row 6027 (([]:List av).map aC) rfl rfl rfl (WC.freezeT 6024 ai ([]:List ab) rfl rfl rfl rfl (WC.freezeT 6025 aa ([]:List (List (List af))) rfl rfl rfl rfl (WC.freezeT 6026 ak ([]:List aq) rfl rfl rfl rfl (WC.freezeT 6027 aC ([]:List av) rfl rfl rfl rfl (Wt (QT.r ?_))))))))))))))))))))
  cases H
  exact Ends.autoC tk rfl rfl rfl tv
 refine Wk (Qn (G (R 1 rfl ?_)))
 obtain ⟨x9,hx9,H⟩:=an H
 refine Cl [] (wQ _ hx9) wR rfl tv rfl (R 3 rfl (Wa 115 tk rfl rfl rfl (Ef 0 rfl (R 1 rfl (NS (G (R 2 rfl (NQ (Wd rfl H (fun H=>?_) (fun H=>?_))))))))))
 ·refine G (R 2 rfl (Ef 0 rfl (R 1 rfl (NQ (WC.nilF 102 4 6024 93 3 rfl (WC.row 6024 (([]:List ab).map ai) rfl rfl rfl (WC.nilF 102 5 6025 94 1 rfl (WC.row 6025 (([]:List (List (List af))).map aa) rfl rfl rfl (WC.nilF 102 6 6026 98 3 rfl (WC.row 6026 (([]:List aq).map ak) rfl rfl rfl (WC.nilF 102 7 6027 55 3 rfl (WC.row 6027 (([]:List av).map aC) rfl rfl rfl (WC.freezeT 6024 ai ([]:List ab) rfl rfl rfl rfl (WC.freezeT 6025 aa ([]:List (List (List af))) rfl rfl rfl rfl (WC.freezeT 6026 ak ([]:List aq) rfl rfl rfl rfl (WC.freezeT 6027 aC ([]:List av) rfl rfl rfl rfl (Wt (QT.r ?_))))))))))))))))))
  cases H
  exact Ends.autoC tk rfl rfl rfl tv
 refine Wk (Qn (G (R 7 rfl (Wa 117 tk rfl rfl rfl (Ef 0 rfl (N (R 1 rfl ?_)))))))
 obtain ⟨x11,hx11,H⟩:=an H
 refine Cl [] (bW _ hx11) bX rfl tv rfl (R 3 rfl (Wa 119 tk rfl rfl rfl (R 1 rfl (Ef 0 rfl (NS (G (R 3 rfl (NQ (Wd rfl H (fun H=>?_) (fun H=>?_))))))))))
 ·refine Ws (Hp (.one 0 true (.one 1 true (.one 2 true (.one 3 false (.one 4 true .done))))) [102,104,106,108,110,112,114,115,117,119] [104,106,108,110,112,114,115,117,119] rfl (by kernel_rfl) rfl (by kernel_rfl) rfl rfl (fun _ h=>h) rfl rfl rfl (fun _ _ _ h=>h) fun FK NK wK K=>(Hr 3 tk rfl rfl rfl rfl tv (He 0 tk ek rfl rfl rfl rfl tv rfl rfl (Hr 1 tk rfl rfl rfl rfl tv (WH.nil rfl (Qn (WC.nilF 102 4 6024 93 3 rfl (WC.row 6024 (([]:List ab).map ai) rfl rfl rfl (WC.nilF 102 5 6025 94 1 rfl (WC.row 6025 (([]:List (List (List af))).map aa) rfl rfl rfl (WC.nilF 102 6 6026 98 3 rfl (WC.row 6026 (([]:List aq).map ak) rfl rfl rfl (WC.nilF 102 7 6027 55 3 rfl (WC.row 6027 (([]:List av).map aC) rfl rfl rfl (WC.freezeT 6024 ai ([]:List ab) rfl rfl rfl rfl (WC.freezeT 6025 aa ([]:List (List (List af))) rfl rfl rfl rfl (WC.freezeT 6026 ak ([]:List aq) rfl rfl rfl rfl (WC.freezeT 6027 aC ([]:List av) rfl rfl rfl rfl (Wt (QT.r ?_))))))))))))))))))))
  cases H
  exact Ends.autoC tk rfl rfl rfl tv
 refine Wk (Qn (Ws (G (R 2 rfl (NQ (Wd rfl H (fun H=>?_) (fun H=>?_)))))))
 ·refine G (R 1 rfl (Ef 0 rfl (R 1 rfl (NQ (WC.nilF 102 4 6024 93 3 rfl (WC.row 6024 (([]:List ab).map ai) rfl rfl rfl (WC.nilF 102 5 6025 94 1 rfl (WC.row 6025 (([]:List (List (List af))).map aa) rfl rfl rfl (WC.nilF 102 6 6026 98 3 rfl (WC.row 6026 (([]:List aq).map ak) rfl rfl rfl (WC.nilF 102 7 6027 55 3 rfl (WC.row 6027 (([]:List av).map aC) rfl rfl rfl (WC.freezeT 6024 ai ([]:List ab) rfl rfl rfl rfl (WC.freezeT 6025 aa ([]:List (List (List af))) rfl rfl rfl rfl (WC.freezeT 6026 ak ([]:List aq) rfl rfl rfl rfl (WC.freezeT 6027 aC ([]:List av) rfl rfl rfl rfl (Wt (QT.r ?_))))))))))))))))))
  cases H
  exact Ends.autoC tk rfl rfl rfl tv
 refine Wk (Qn (Ws (G (R 1 rfl (NQ (Wb (WC.nilF 117 7 1146 55 3 rfl (Wl (ι:= {x:Nat×(Int×ByteArray×Int×Int×(List av)) //dm a0 x3 x4 x5 x6 x9 x11 x.1 x.2=some r}) (fun x=>[(0, .d (.str a0)),(2, .ptr 102 0),(4, .ptr 104 0),(17, .ptr 117 0),(18, .d (.int .u64 x11.1)),(19, .ptr 119 0),(20, .d (.int .i64 x.1.2.1))]) (fun x=>[(102, .box 31 [.d (.int .i64 0), .d (.int .i64 0), .d (.int .i64 0), .d (.int .i64 0), .d (.nils), .d (.nils), .d (.nils), .d (.nils)]),(104, .box 31 [.d (.int .i64 0), .d (.int .i64 0), .d (.int .i64 0), .d (.int .i64 0), .d (.nils), .d (.nils), .d (.nils), .d (.nils)]),(117, .box 31 [.d (.int .i64 x3.1), .d (.int .i64 x4.1), .d (.int .i64 x5.1), .d (.int .i64 x6.1), .d (slT ai x9.1.Decls), .d (slT aa x9.1.Waits), .d (slT ak x9.1.Funcs), .own 1146]),(119, .box 83 [.d (.str x.1.2.2.1), .d (.int .i64 x.1.2.2.2.1), .d (.int .i64 x.1.2.2.2.2.1)]),(1146, .row 55 3 (x.1.2.2.2.2.2.map aC))]) (fun x=>x.1.1) ⟨(fuel,(0,x11.2.S,x11.2.At,x11.2.Err,([]:List av))),H⟩ (Lm p7 p5) fun x=>?_))))))))
 obtain ⟨⟨k16,s15⟩,H⟩:=x
 rcases k16 with _ | k16
 ·exact aO H
 rw [dm] at H
 refine Ws (G (R 4 rfl (NQ (Wd rfl H (fun H=>?_) (fun H=>?_)))))
 ·refine Wk (Qn (Ws (Wb (G (R 1 rfl ?_)))))
  obtain ⟨x18,hx18,H⟩:=an H
  refine Cl [] (iU _ hx18) iV rfl tv rfl (R 3 rfl (Wa 122 tk rfl rfl rfl (R 1 rfl (Ef 0 rfl (NS (G (R 3 rfl (NQ (Wd rfl H (fun H=>?_) (fun H=>?_))))))))))
  ·refine Ws (Hp (.one 0 true (.one 1 true (.one 2 true (.one 3 false (.one 4 true .done))))) [102,104,117,119,122] [104,117,119,122] rfl (by kernel_rfl) rfl (by kernel_rfl) rfl rfl (fun _ h=>h) rfl rfl rfl (fun _ _ _ h=>h) fun FK NK wK K=>(Hr 3 tk rfl rfl rfl rfl tv (He 0 tk ek rfl rfl rfl rfl tv rfl rfl (Hr 1 tk rfl rfl rfl rfl tv (WH.nil rfl (Qn (WC.nilF 102 4 6024 93 3 rfl (WC.row 6024 (([]:List ab).map ai) rfl rfl rfl (WC.nilF 102 5 6025 94 1 rfl (WC.row 6025 (([]:List (List (List af))).map aa) rfl rfl rfl (WC.nilF 102 6 6026 98 3 rfl (WC.row 6026 (([]:List aq).map ak) rfl rfl rfl (WC.nilF 102 7 6027 55 3 rfl (WC.row 6027 (([]:List av).map aC) rfl rfl rfl (WC.freezeT 6024 ai ([]:List ab) rfl rfl rfl rfl (WC.freezeT 6025 aa ([]:List (List (List af))) rfl rfl rfl rfl (WC.freezeT 6026 ak ([]:List aq) rfl rfl rfl rfl (WC.freezeT 6027 aC ([]:List av) rfl rfl rfl rfl (Wt (QT.r (QB.r (QT.r (QT.r (QB.r (QT.r ?_)))))))))))))))))))))))))
   cases H
   exact Ends.autoC tk rfl rfl rfl tv
  refine Wk (Qn (Ws (G (R 3 rfl (Wx 2 2 true tk sg0 rfl rfl (fun _=>tv) (RS 1 rfl ⟨by first | exact id | exact fun h=>by rw [h];rfl | simp_all,tv⟩ (NQ (Wd rfl H (fun H=>?_) (fun H=>?_)))))))))
  ·refine G (R 1 rfl (Ef 0 rfl (R 1 rfl (NQ (WC.nilF 102 4 6024 93 3 rfl (WC.row 6024 (([]:List ab).map ai) rfl rfl rfl (WC.nilF 102 5 6025 94 1 rfl (WC.row 6025 (([]:List (List (List af))).map aa) rfl rfl rfl (WC.nilF 102 6 6026 98 3 rfl (WC.row 6026 (([]:List aq).map ak) rfl rfl rfl (WC.nilF 102 7 6027 55 3 rfl (WC.row 6027 (([]:List av).map aC) rfl rfl rfl (WC.freezeT 6024 ai ([]:List ab) rfl rfl rfl rfl (WC.freezeT 6025 aa ([]:List (List (List af))) rfl rfl rfl rfl (WC.freezeT 6026 ak ([]:List aq) rfl rfl rfl rfl (WC.freezeT 6027 aC ([]:List av) rfl rfl rfl rfl (Wt (QT.r (QB.r (QT.r (QT.r (QB.r (QT.r ?_)))))))))))))))))))))))
   cases H
   exact Ends.autoC tk rfl rfl rfl tv
  refine Wk (Qn (G (R 1 rfl ?_)))
  obtain ⟨x21,hx21,H⟩:=an H
  refine Cl [] (fP _ hx21) fQ rfl tv rfl (R 3 rfl (Wa 124 tk rfl rfl rfl (R 1 rfl (Ef 0 rfl (N (R 1 rfl (NS (G (R 2 rfl (NQ (Wd rfl H (fun H=>?_) (fun H=>?_))))))))))))
  ·refine G (R 1 rfl ?_)
   obtain ⟨x23,hx23,H⟩:=an H
   refine Cl [] (fP _ hx23) fQ rfl tv rfl (R 3 rfl (Wa 127 tk rfl rfl rfl (R 1 rfl (Ef 0 rfl (NQ (Hp (.one 0 true (.one 1 true (.one 2 true (.one 3 false .done)))) [102,104,117,119,122,124,127] [102,104,117,119,122,127] rfl (by kernel_rfl) rfl (by kernel_rfl) rfl rfl (fun _ h=>h) rfl rfl rfl (fun _ _ _ h=>h) fun FK NK wK K=>(Hr 3 tk rfl rfl rfl rfl tv (He 0 tk ek rfl rfl rfl rfl tv rfl rfl (WH.nil rfl (Qn (Ws (G (R 3 rfl (NQ (Wd rfl H (fun H=>?_) (fun H=>?_))))))))))))))))
   ·refine Ws (Hp (.one 0 true (.one 1 true (.one 2 true (.one 3 false (.one 4 true .done))))) [102,104,117,119,122,124,127] [104,117,119,122,124,127] rfl (by kernel_rfl) rfl (by kernel_rfl) rfl rfl (fun _ h=>h) rfl rfl rfl (fun _ _ _ h=>h) fun FK NK wK K=>(Hr 3 tk rfl rfl rfl rfl tv (He 0 tk ek rfl rfl rfl rfl tv rfl rfl (Hr 1 tk rfl rfl rfl rfl tv (WH.nil rfl (Qn (WC.nilF 102 4 6024 93 3 rfl (WC.row 6024 (([]:List ab).map ai) rfl rfl rfl (WC.nilF 102 5 6025 94 1 rfl (WC.row 6025 (([]:List (List (List af))).map aa) rfl rfl rfl (WC.nilF 102 6 6026 98 3 rfl (WC.row 6026 (([]:List aq).map ak) rfl rfl rfl (WC.nilF 102 7 6027 55 3 rfl (WC.row 6027 (([]:List av).map aC) rfl rfl rfl (WC.freezeT 6024 ai ([]:List ab) rfl rfl rfl rfl (WC.freezeT 6025 aa ([]:List (List (List af))) rfl rfl rfl rfl (WC.freezeT 6026 ak ([]:List aq) rfl rfl rfl rfl (WC.freezeT 6027 aC ([]:List av) rfl rfl rfl rfl (Wt (QT.r (QB.r (QT.r (QT.r (QB.r (QT.r ?_)))))))))))))))))))))))))
    cases H
    exact Ends.autoC tk rfl rfl rfl tv
   refine Wk (Qn ?_)
   obtain ⟨g35_7_1,H⟩:=ay H
   refine WC.heldF [(0, .d (.str a0)),(2, .ptr 102 0),(4, .ptr 104 0),(17, .ptr 117 0),(18, .d (.int .u64 x11.1)),(19, .ptr 119 0),(20, .d (.int .i64 s15.1))] [(102, .box 31 [.d (.int .i64 0), .d (.int .i64 0), .d (.int .i64 0), .d (.int .i64 0), .d (.nils), .d (.nils), .d (.nils), .d (.nils)]),(104, .box 31 [.d (.int .i64 0), .d (.int .i64 0), .d (.int .i64 0), .d (.int .i64 0), .d (.nils), .d (.nils), .d (.nils), .d (.nils)]),(117, .box 31 [.d (.int .i64 x3.1), .d (.int .i64 x4.1), .d (.int .i64 x5.1), .d (.int .i64 x6.1), .d (slT ai x9.1.Decls), .d (slT aa x9.1.Waits), .d (slT ak x9.1.Funcs), .own 1146]),(119, .box 83 [.d (.str x23.2.S), .d (.int .i64 x23.2.At), .d (.int .i64 x23.2.Err)]),(1146, .row 55 3 ((s15.2.2.2.2++([(⟨x18.1,x21.1,x23.1⟩:av)]:List av)).map aC))] (sT 0 (sT 2 (sT 3 (sT 4 (sT 5 (sT 8 (fk (sf 1 (sf 6 (sf 7 (sT 9 (sf 10 (sf 11 sd)))))) (sf 6 (sf 1 (sf 7 (sT 9 (sf 10 (sf 11 sd))))))))))))) [102,104,117,119,122,124,127] [102,104,122,124,127] rfl (by kernel_rfl) rfl (by kernel_rfl) rfl rfl (fun _ h=>h) rfl rfl rfl (fun FK NK wK K=>?_) ?_
   ·refine Hr 6 tk rfl rfl rfl rfl tv (WH.fork ?_ ?_)
    ·refine WH.val tk rfl rfl rfl rfl rfl tv rfl rfl (He 251 tk ek rfl rfl rfl rfl tv rfl rfl (WH.freezeT 251 aC ([(⟨x18.1,x21.1,x23.1⟩:av)]:List av) rfl rfl rfl rfl (WH.appT aC s15.2.2.2.2 ([(⟨x18.1,x21.1,x23.1⟩:av)]:List av) tk ek rfl rfl (fun _=>rfl) (fun _=>rfl) rfl rfl rfl rfl rfl (bQ g35_7_1) rfl rfl rfl rfl rfl rfl rfl ?_)))
     exact Hr 1 tk rfl rfl rfl rfl tv (He 0 tk ek rfl rfl rfl rfl tv rfl rfl (He 0 tk ek rfl rfl rfl rfl tv rfl rfl (Hn rfl (Lw q7 p5))))
    ·refine He 251 tk ek rfl rfl rfl rfl tv rfl rfl (WH.freezeT 251 aC ([(⟨x18.1,x21.1,x23.1⟩:av)]:List av) rfl rfl rfl rfl (WH.val tk rfl rfl rfl rfl rfl tv rfl rfl (WH.appT aC s15.2.2.2.2 ([(⟨x18.1,x21.1,x23.1⟩:av)]:List av) tk ek rfl rfl (fun _=>rfl) (fun _=>rfl) rfl rfl rfl rfl rfl (bQ g35_7_1) rfl rfl rfl rfl rfl rfl rfl ?_)))
     exact Hr 1 tk rfl rfl rfl rfl tv (He 0 tk ek rfl rfl rfl rfl tv rfl rfl (He 0 tk ek rfl rfl rfl rfl tv rfl rfl (Hn rfl (Lw q7 p5))))
   ·refine Qb (Qn ?_)
    exact Wg (R 3 rfl (NQ (⟨⟨(k16,(IntKind.i64.wrap (s15.1+1),x23.2.S,x23.2.At,x23.2.Err,s15.2.2.2.2++([(⟨x18.1,x21.1,x23.1⟩:av)]:List av))),H⟩,Z,Lm p7 p5⟩)))
  refine Wk (Qn (Ws (G (R 3 rfl (NQ (Wd rfl H (fun H=>?_) (fun H=>?_)))))))
  ·refine Ws (Hp (.one 0 true (.one 1 true (.one 2 true (.one 3 false (.one 4 true .done))))) [102,104,117,119,122,124] [104,117,119,122,124] rfl (by kernel_rfl) rfl (by kernel_rfl) rfl rfl (fun _ h=>h) rfl rfl rfl (fun _ _ _ h=>h) fun FK NK wK K=>(Hr 3 tk rfl rfl rfl rfl tv (He 0 tk ek rfl rfl rfl rfl tv rfl rfl (Hr 1 tk rfl rfl rfl rfl tv (WH.nil rfl (Qn (WC.nilF 102 4 6024 93 3 rfl (WC.row 6024 (([]:List ab).map ai) rfl rfl rfl (WC.nilF 102 5 6025 94 1 rfl (WC.row 6025 (([]:List (List (List af))).map aa) rfl rfl rfl (WC.nilF 102 6 6026 98 3 rfl (WC.row 6026 (([]:List aq).map ak) rfl rfl rfl (WC.nilF 102 7 6027 55 3 rfl (WC.row 6027 (([]:List av).map aC) rfl rfl rfl (WC.freezeT 6024 ai ([]:List ab) rfl rfl rfl rfl (WC.freezeT 6025 aa ([]:List (List (List af))) rfl rfl rfl rfl (WC.freezeT 6026 ak ([]:List aq) rfl rfl rfl rfl (WC.freezeT 6027 aC ([]:List av) rfl rfl rfl rfl (Wt (QT.r (QB.r (QT.r (QT.r (QB.r (QT.r ?_)))))))))))))))))))))))))
   cases H
   exact Ends.autoC tk rfl rfl rfl tv
  refine Wk (Qn ?_)
  obtain ⟨g35_7_1,H⟩:=ay H
  refine WC.heldF [(0, .d (.str a0)),(2, .ptr 102 0),(4, .ptr 104 0),(17, .ptr 117 0),(18, .d (.int .u64 x11.1)),(19, .ptr 119 0),(20, .d (.int .i64 s15.1))] [(102, .box 31 [.d (.int .i64 0), .d (.int .i64 0), .d (.int .i64 0), .d (.int .i64 0), .d (.nils), .d (.nils), .d (.nils), .d (.nils)]),(104, .box 31 [.d (.int .i64 0), .d (.int .i64 0), .d (.int .i64 0), .d (.int .i64 0), .d (.nils), .d (.nils), .d (.nils), .d (.nils)]),(117, .box 31 [.d (.int .i64 x3.1), .d (.int .i64 x4.1), .d (.int .i64 x5.1), .d (.int .i64 x6.1), .d (slT ai x9.1.Decls), .d (slT aa x9.1.Waits), .d (slT ak x9.1.Funcs), .own 1146]),(119, .box 83 [.d (.str x21.2.S), .d (.int .i64 x21.2.At), .d (.int .i64 x21.2.Err)]),(1146, .row 55 3 ((s15.2.2.2.2++([(⟨x18.1,x21.1,0⟩:av)]:List av)).map aC))] (sT 0 (sT 2 (sT 3 (sT 4 (sT 5 (sT 8 (fk (sf 1 (sf 6 (sf 7 (sT 9 (sf 10 (sf 11 sd)))))) (sf 6 (sf 1 (sf 7 (sT 9 (sf 10 (sf 11 sd))))))))))))) [102,104,117,119,122,124] [102,104,122,124] rfl (by kernel_rfl) rfl (by kernel_rfl) rfl rfl (fun _ h=>h) rfl rfl rfl (fun FK NK wK K=>?_) ?_
  ·refine Hr 6 tk rfl rfl rfl rfl tv (WH.fork ?_ ?_)
   ·refine WH.val tk rfl rfl rfl rfl rfl tv rfl rfl (He 251 tk ek rfl rfl rfl rfl tv rfl rfl (WH.freezeT 251 aC ([(⟨x18.1,x21.1,0⟩:av)]:List av) rfl rfl rfl rfl (WH.appT aC s15.2.2.2.2 ([(⟨x18.1,x21.1,0⟩:av)]:List av) tk ek rfl rfl (fun _=>rfl) (fun _=>rfl) rfl rfl rfl rfl rfl (bQ g35_7_1) rfl rfl rfl rfl rfl rfl rfl ?_)))
    exact Hr 1 tk rfl rfl rfl rfl tv (He 0 tk ek rfl rfl rfl rfl tv rfl rfl (He 0 tk ek rfl rfl rfl rfl tv rfl rfl (Hn rfl (Lw q7 p5))))
   ·refine He 251 tk ek rfl rfl rfl rfl tv rfl rfl (WH.freezeT 251 aC ([(⟨x18.1,x21.1,0⟩:av)]:List av) rfl rfl rfl rfl (WH.val tk rfl rfl rfl rfl rfl tv rfl rfl (WH.appT aC s15.2.2.2.2 ([(⟨x18.1,x21.1,0⟩:av)]:List av) tk ek rfl rfl (fun _=>rfl) (fun _=>rfl) rfl rfl rfl rfl rfl (bQ g35_7_1) rfl rfl rfl rfl rfl rfl rfl ?_)))
    exact Hr 1 tk rfl rfl rfl rfl tv (He 0 tk ek rfl rfl rfl rfl tv rfl rfl (He 0 tk ek rfl rfl rfl rfl tv rfl rfl (Hn rfl (Lw q7 p5))))
  ·refine Qb (Qn ?_)
   exact Wg (R 3 rfl (NQ (⟨⟨(k16,(IntKind.i64.wrap (s15.1+1),x21.2.S,x21.2.At,x21.2.Err,s15.2.2.2.2++([(⟨x18.1,x21.1,0⟩:av)]:List av))),H⟩,Z,Lm p7 p5⟩)))
 refine WC.exit (Qx (Qx (Qh (Qn ?_))))
 refine Ws (G (R 5 rfl (NQ (Wd rfl H (fun H=>?_) (fun H=>?_)))))
 ·refine G (R 1 rfl (Ef 0 rfl (R 1 rfl (NQ (WC.nilF 102 4 6024 93 3 rfl (WC.row 6024 (([]:List ab).map ai) rfl rfl rfl (WC.nilF 102 5 6025 94 1 rfl (WC.row 6025 (([]:List (List (List af))).map aa) rfl rfl rfl (WC.nilF 102 6 6026 98 3 rfl (WC.row 6026 (([]:List aq).map ak) rfl rfl rfl (WC.nilF 102 7 6027 55 3 rfl (WC.row 6027 (([]:List av).map aC) rfl rfl rfl (WC.freezeT 6024 ai ([]:List ab) rfl rfl rfl rfl (WC.freezeT 6025 aa ([]:List (List (List af))) rfl rfl rfl rfl (WC.freezeT 6026 ak ([]:List aq) rfl rfl rfl rfl (WC.freezeT 6027 aC ([]:List av) rfl rfl rfl rfl (Wt (QT.r ?_))))))))))))))))))
  cases H
  exact Ends.autoC tk rfl rfl rfl tv
 refine Wk (Qn (Ws (G (WL.freezeT 1146 aC s15.2.2.2.2 rfl rfl rfl rfl (R 1 rfl ?_)))))
 obtain ⟨x27,hx27,H⟩:=an H
 refine Cl [] (tw _ hx27) tz rfl tv rfl (R 1 rfl (N (R 2 rfl (NQ (Wd rfl H (fun H=>?_) (fun H=>?_))))))
 ·refine G (R 2 rfl (Ef 0 rfl (R 1 rfl (NQ (WC.nilF 102 4 6024 93 3 rfl (WC.row 6024 (([]:List ab).map ai) rfl rfl rfl (WC.nilF 102 5 6025 94 1 rfl (WC.row 6025 (([]:List (List (List af))).map aa) rfl rfl rfl (WC.nilF 102 6 6026 98 3 rfl (WC.row 6026 (([]:List aq).map ak) rfl rfl rfl (WC.nilF 102 7 6027 55 3 rfl (WC.row 6027 (([]:List av).map aC) rfl rfl rfl (WC.freezeT 6024 ai ([]:List ab) rfl rfl rfl rfl (WC.freezeT 6025 aa ([]:List (List (List af))) rfl rfl rfl rfl (WC.freezeT 6026 ak ([]:List aq) rfl rfl rfl rfl (WC.freezeT 6027 aC ([]:List av) rfl rfl rfl rfl (Wt (QT.r ?_))))))))))))))))))
  cases H
  exact Ends.autoC tk rfl rfl rfl tv
 refine Wk (Qn (G (R 1 rfl (Ef 0 rfl (R 1 rfl (NQ (Wt ?_)))))))
 cases H
 exact Ends.autoC tk rfl rfl rfl tv
theorem wT:aF Tryz.prog 16 Tryz.f16:=⟨Tryz.func16,rfl,by kernel_rfl⟩
theorem n5 (a0:ByteArray) {r:Bool} (H:fT a0=some r):LJ.Spec Tryz.prog 4 [.d (.str a0)] [] (.d (.bool r)) []:=by
 refine LJ.Spec.code Tryz.func4 rfl 28 rfl rfl [] rfl fun w0 F0 S0 B0=>?_
 unfold fT at H
 refine G (R 1 rfl (N (R 1 rfl ?_)))
 obtain ⟨x1,hx1,H⟩:=an H
 refine Cl [] (o5 _ hx1) o6 rfl tv rfl (R 3 rfl (Wa 103 tk rfl rfl rfl (Ef 0 rfl (R 1 rfl (N (R 1 rfl ?_))))))
 obtain ⟨x2,hx2,H⟩:=an H
 refine Cl [] (wS _ hx2) wT rfl tv rfl (R 3 rfl (Wa 105 tk rfl rfl rfl (Ef 0 rfl (R 1 rfl (N (R 2 rfl ?_))))))
 obtain ⟨x3,hx3,H⟩:=an H
 refine Cl [] (o7 _ _ hx3) o8 rfl tv rfl (R 1 rfl (Wx 3 3 true tk sg0 rfl rfl (fun _=>tv) (RS 2 rfl ⟨by first | exact id | exact fun h=>by rw [h];rfl | simp_all,tv⟩ ?_)))
 obtain ⟨x4,hx4,H⟩:=an H
 refine Wx 1 8 true tk [PSig.at' tE ((x3&&(iEq x1.2 x2.2))=true) rfl (fun hb=>tD (of_t hx4 hb))] rfl rfl (fun hb=>⟨⟨hb,rfl⟩,tv⟩) (RS 2 rfl ⟨by first | exact id | exact fun h=>by rw [h];rfl | simp_all,tv⟩ (NQ (Wt ?_)))
 cases H
 exact Ea rfl rfl rfl tv
end Go.Proofs.YtdebndfaknfefaaGreatDoor.W
