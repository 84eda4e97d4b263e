/- Each Go function comes to what its plain function gives, where that gives something. -/
import Derived.Test.YtdebndfaknfefaaGreatDoorPF
import Derived.Test.YtdebndfaknfefaaGreatDoorSq
import Derived.Test.YtdebndfaknfefaaGreatDoorWF2
import Derived.Test.YtdebndfaknfefaaGreatDoorXByt
import Derived.Test.YtdebndfaknfefaaGreatDoorXDef
import Derived.Test.YtdebndfaknfefaaGreatDoorXPan
import Derived.Test.YtdebndfaknfefaaGreatDoorXShelf
namespace Go.Proofs.YtdebndfaknfefaaGreatDoor.W
open Go Go.RowKit LJ
set_option linter.unusedVariables false
set_option linter.unusedSimpArgs false
set_option maxRecDepth 10000
theorem xI (a0:List ai) {r:ByteArray} (H:lA a0=some r):LJ.Spec Tryz.prog 57 [.d (slT aj a0)] [] (.d (.str r)) []:=by
 refine LJ.Spec.code Tryz.func57 rfl 64 rfl rfl [] rfl fun w0 F0 S0 B0=>?_
 unfold lA at H
 refine G (R 1 rfl (N (R 3 rfl ?_)))
 obtain ⟨x1,hx1,H⟩:=al H
 refine Cl [] (bm _ hx1) bn rfl tv rfl (R 1 rfl (NS (G (R 1 rfl (NQ (Wb (Wl (ι:= {x:Nat×(ByteArray×Int) //eA a0 x.1 x.2=some r}) (fun x=>[(0, .d (slT aj a0)),(3, .d (.str x.1.2.1)),(4, .d (.int .i64 x.1.2.2))]) (fun x=>[]) (fun x=>x.1.1) ⟨(fuel,(x1,0)),H⟩ (Lm p3 tv) fun x=>?_)))))))
 obtain ⟨⟨k3,s2⟩,H⟩:=x
 rcases k3 with _ | k3
 ·exact aQ H
 rw [eA] at H
 refine Ws (G (R 4 rfl (NQ (Wd rfl H (fun H=>?_) (fun H=>?_)))))
 ·refine Wk (Qn ?_)
  obtain ⟨K5,hK5,H⟩:=cR H
  refine WC.cut (fun E m=>∃ s6:ByteArray,K5 s6=some r∧gY E m [(0, .d (slT aj a0)),(3, .d (.str s6)),(4, .d (.int .i64 s2.2))] []) ?_ ?_
  ·refine Wb (G ?_)
   obtain ⟨g7,H⟩:=av H
   refine RS 4 rfl ⟨⟨(ao g7).1,(ao g7).2,rfl⟩,tv⟩ (Wa 105 tk rfl rfl rfl (Ef 0 rfl (N (R 4 rfl (Ef 124 rfl ?_)))))
   obtain ⟨g8,H⟩:=av H
   refine WL.row 124 (bG (ByteArray.empty.push (UInt8.ofNat (IntKind.u8.wrap ((a0.getD s2.2.toNat default).Kind)).toNat))) rfl (eo (s:= .empty) (ao g8).1 (ao g8).2) rfl (WL.ownStr (ByteArray.empty.push (UInt8.ofNat (IntKind.u8.wrap ((a0.getD s2.2.toNat default).Kind)).toNat)) tk rfl rfl rfl rfl ?_)
   obtain ⟨g9,H⟩:=av H
   refine RS 2 rfl ⟨(bD g9),tv⟩ (NS (G (R 4 rfl (Wx 3 3 false tk sg0 rfl rfl (fun _=>tv) (RS 1 rfl ⟨by first | exact id | exact fun h=>by rw [h];rfl | simp_all,tv⟩ (NQ (Wd rfl H (fun H=>?_) (fun H=>?_))))))))
   ·refine Wg (R 4 rfl ?_)
    obtain ⟨x11,hx11,H⟩:=al H
    refine Cl [] (bm _ hx11) bn rfl tv rfl ?_
    obtain ⟨g12,H⟩:=av H
    refine RS 2 rfl ⟨(bD g12),tv⟩ (NS (G (R 3 rfl (NQ (Wd rfl H (fun H=>?_) (fun H=>?_))))))
    ·refine Wg (R 3 rfl ?_)
     obtain ⟨x14,hx14,H⟩:=al H
     refine Cl [] (gn _ hx14) gp rfl tv rfl ?_
     obtain ⟨g15,H⟩:=av H
     refine RS 2 rfl ⟨(bD g15),tv⟩ (N (R 4 rfl (Wx 3 3 false tk sg0 rfl rfl (fun _=>tv) (RS 1 rfl ⟨by first | exact id | exact fun h=>by rw [h];rfl | simp_all,tv⟩ (NQ (Wd rfl H (fun H=>?_) (fun H=>?_)))))))
     ·refine Wg (R 4 rfl ?_)
      obtain ⟨x17,hx17,H⟩:=al H
      refine Cl [] (bm _ hx17) bn rfl tv rfl ?_
      obtain ⟨g18,H⟩:=av H
      refine RS 2 rfl ⟨(bD g18),tv⟩ (Wn (Qb (Qn ?_)))
      exact ⟨(((s2.1++(ByteArray.empty.push (UInt8.ofNat (IntKind.u8.wrap ((a0.getD s2.2.toNat default).Kind)).toNat)))++x11)++x14)++x17,H,Lw q3 tv⟩
     refine Wk (Qb (Qn ?_))
     exact ⟨((s2.1++(ByteArray.empty.push (UInt8.ofNat (IntKind.u8.wrap ((a0.getD s2.2.toNat default).Kind)).toNat)))++x11)++x14,H,Lw q3 tv⟩
    refine Wk (Qn (G (R 4 rfl (Wx 3 3 false tk sg0 rfl rfl (fun _=>tv) (RS 1 rfl ⟨by first | exact id | exact fun h=>by rw [h];rfl | simp_all,tv⟩ (NQ (Wd rfl H (fun H=>?_) (fun H=>?_))))))))
    ·refine Wg (R 4 rfl ?_)
     obtain ⟨x20,hx20,H⟩:=al H
     refine Cl [] (bm _ hx20) bn rfl tv rfl ?_
     obtain ⟨g21,H⟩:=av H
     refine RS 2 rfl ⟨(bD g21),tv⟩ (Wn (Qb (Qn ?_)))
     exact ⟨((s2.1++(ByteArray.empty.push (UInt8.ofNat (IntKind.u8.wrap ((a0.getD s2.2.toNat default).Kind)).toNat)))++x11)++x20,H,Lw q3 tv⟩
    refine Wk (Qb (Qn ?_))
    exact ⟨(s2.1++(ByteArray.empty.push (UInt8.ofNat (IntKind.u8.wrap ((a0.getD s2.2.toNat default).Kind)).toNat)))++x11,H,Lw q3 tv⟩
   refine Wk (Qn (Ws (G (R 3 rfl (NQ (Wd rfl H (fun H=>?_) (fun H=>?_)))))))
   ·refine Wg (R 3 rfl ?_)
    obtain ⟨x23,hx23,H⟩:=al H
    refine Cl [] (gn _ hx23) gp rfl tv rfl ?_
    obtain ⟨g24,H⟩:=av H
    refine RS 2 rfl ⟨(bD g24),tv⟩ (N (R 4 rfl (Wx 3 3 false tk sg0 rfl rfl (fun _=>tv) (RS 1 rfl ⟨by first | exact id | exact fun h=>by rw [h];rfl | simp_all,tv⟩ (NQ (Wd rfl H (fun H=>?_) (fun H=>?_)))))))
    ·refine Wg (R 4 rfl ?_)
     obtain ⟨x26,hx26,H⟩:=al H
     refine Cl [] (bm _ hx26) bn rfl tv rfl ?_
     obtain ⟨g27,H⟩:=av H
     refine RS 2 rfl ⟨(bD g27),tv⟩ (Wn (Qb (Qn ?_)))
     exact ⟨((s2.1++(ByteArray.empty.push (UInt8.ofNat (IntKind.u8.wrap ((a0.getD s2.2.toNat default).Kind)).toNat)))++x23)++x26,H,Lw q3 tv⟩
    refine Wk (Qb (Qn ?_))
    exact ⟨(s2.1++(ByteArray.empty.push (UInt8.ofNat (IntKind.u8.wrap ((a0.getD s2.2.toNat default).Kind)).toNat)))++x23,H,Lw q3 tv⟩
   refine Wk (Qn (G (R 4 rfl (Wx 3 3 false tk sg0 rfl rfl (fun _=>tv) (RS 1 rfl ⟨by first | exact id | exact fun h=>by rw [h];rfl | simp_all,tv⟩ (NQ (Wd rfl H (fun H=>?_) (fun H=>?_))))))))
   ·refine Wg (R 4 rfl ?_)
    obtain ⟨x29,hx29,H⟩:=al H
    refine Cl [] (bm _ hx29) bn rfl tv rfl ?_
    obtain ⟨g30,H⟩:=av H
    refine RS 2 rfl ⟨(bD g30),tv⟩ (Wn (Qb (Qn ?_)))
    exact ⟨(s2.1++(ByteArray.empty.push (UInt8.ofNat (IntKind.u8.wrap ((a0.getD s2.2.toNat default).Kind)).toNat)))++x29,H,Lw q3 tv⟩
   refine Wk (Qb (Qn ?_))
   exact ⟨s2.1++(ByteArray.empty.push (UInt8.ofNat (IntKind.u8.wrap ((a0.getD s2.2.toNat default).Kind)).toNat)),H,Lw q3 tv⟩
  ·rintro E m ⟨s6,H,hl⟩
   refine WC.lessW hl ?_
   replace H:=(hK5 _).symm.trans H
   try dsimp only at H
   exact Wg (R 3 rfl (NQ (⟨⟨(k3,(s6,IntKind.i64.wrap (s2.2+1))),H⟩,Z,Lm p3 tv⟩)))
 refine WC.exit (Qx (Qx (Qh (Qn ?_))))
 refine G (R 2 rfl (NQ (Wt ?_)))
 cases H
 exact Ea rfl rfl rfl tv
theorem xJ:aE Tryz.prog 57 Tryz.f57:=⟨Tryz.func57,rfl,by kernel_rfl⟩
theorem xK (a0:List (List ah)) {r:ByteArray} (H:lB a0=some r):LJ.Spec Tryz.prog 58 [.d (slT aC a0)] [] (.d (.str r)) []:=by
 refine LJ.Spec.code Tryz.func58 rfl 64 rfl rfl [] rfl fun w0 F0 S0 B0=>?_
 unfold lB at H
 refine G (R 1 rfl (N (R 3 rfl ?_)))
 obtain ⟨x1,hx1,H⟩:=al H
 refine Cl [] (bm _ hx1) bn rfl tv rfl (R 1 rfl (NS (G (R 1 rfl (NQ (Wb (Wl (ι:= {x:Nat×(ByteArray×Int) //eB a0 x.1 x.2=some r}) (fun x=>[(0, .d (slT aC a0)),(3, .d (.str x.1.2.1)),(4, .d (.int .i64 x.1.2.2))]) (fun x=>[]) (fun x=>x.1.1) ⟨(fuel,(x1,0)),H⟩ (Lm p3 tv) fun x=>?_)))))))
 obtain ⟨⟨k3,s2⟩,H⟩:=x
 rcases k3 with _ | k3
 ·exact aQ H
 rw [eB] at H
 refine Ws (G (R 4 rfl (NQ (Wd rfl H (fun H=>?_) (fun H=>?_)))))
 ·refine Wk (Qn ?_)
  obtain ⟨K5,hK5,H⟩:=cR H
  refine WC.cut (fun E m=>∃ s6:ByteArray,K5 s6=some r∧gY E m [(0, .d (slT aC a0)),(3, .d (.str s6)),(4, .d (.int .i64 s2.2))] []) ?_ ?_
  ·refine Wb (G ?_)
   obtain ⟨g7,H⟩:=av H
   refine RS 7 rfl ⟨⟨(ao g7).1,(ao g7).2,rfl⟩,tv⟩ ?_
   obtain ⟨x8,hx8,H⟩:=al H
   refine Cl [] (bm _ hx8) bn rfl tv rfl ?_
   obtain ⟨g9,H⟩:=av H
   refine RS 2 rfl ⟨(bD g9),tv⟩ (N (R 1 rfl (NQ (Wb (Wl (ι:= {x:Nat×(ByteArray×Int) //dp a0 s2 K5 x.1 x.2=some r}) (fun x=>[(0, .d (slT aC a0)),(3, .d (.str x.1.2.1)),(4, .d (.int .i64 s2.2)),(5, .d (.int .i64 x.1.2.2))]) (fun x=>[]) (fun x=>x.1.1) ⟨(fuel,(s2.1++x8,0)),H⟩ (Lm p4 tv) fun x=>?_)))))
   obtain ⟨⟨k11,s10⟩,H⟩:=x
   rcases k11 with _ | k11
   ·exact aQ H
   rw [dp] at H
   refine Ws (G ?_)
   obtain ⟨g12,H⟩:=av H
   refine RS 7 rfl ⟨⟨(ao g12).1,(ao g12).2,rfl⟩,tv⟩ (NQ (Wd rfl H (fun H=>?_) (fun H=>?_)))
   ·refine Wk (Qn (Ws (Wb (G ?_))))
    obtain ⟨g14,H⟩:=av H
    obtain ⟨g15,H⟩:=av H
    refine RS 7 rfl ⟨⟨(ao g14).1,(ao g14).2,rfl⟩,⟨(ao g15).1,(ao g15).2,rfl⟩,tv⟩ (Wa 106 tk rfl rfl rfl (Ef 0 rfl (NQ (Ws ?_))))
    obtain ⟨g10_5_1,H⟩:=av H
    obtain ⟨g10_6_1,H⟩:=av H
    obtain ⟨x10_10_1,hx10_10_1,H⟩:=al H
    obtain ⟨g10_11_1,H⟩:=av H
    refine WC.heldF [(0, .d (slT aC a0)),(3, .d (.str ((s10.1++(ByteArray.empty.push (UInt8.ofNat (IntKind.u8.wrap (((a0.getD s2.2.toNat default).getD s10.2.toNat default).Kind)).toNat)))++x10_10_1))),(4, .d (.int .i64 s2.2)),(5, .d (.int .i64 s10.2)),(6, .ptr 106 0)] [(106, .box 159 [.d (.int .i64 (((a0.getD s2.2.toNat default).getD s10.2.toNat default).Kind)), .d (.int .i64 (((a0.getD s2.2.toNat default).getD s10.2.toNat default).Obj)), .d (.int .i64 (((a0.getD s2.2.toNat default).getD s10.2.toNat default).N))])] (sT 0 (sT 1 (sT 2 (sT 3 (sT 7 (sT 8 (sT 9 (fk (sf 4 (fk (sf 5 (sT 6 (sf 10 (sT 11 (sT 12 sd))))) (sf 10 (sf 5 (sT 6 (sT 11 (sT 12 sd))))))) (sf 10 (sf 4 (sf 5 (sT 6 (sT 11 (sT 12 sd)))))))))))))) [106] [106] rfl (by kernel_rfl) rfl (by kernel_rfl) rfl rfl (fun _ h=>h) rfl rfl rfl (fun FK NK wK K=>?_) ?_
    ·refine Hr 7 tk rfl rfl rfl rfl tv (WH.fork ?_ ?_)
     ·refine He 146 tk ek rfl rfl rfl rfl tv rfl rfl (WH.fork ?_ ?_)
      ·exact WH.row 146 (bG (ByteArray.empty.push (UInt8.ofNat (IntKind.u8.wrap (((a0.getD s2.2.toNat default).getD s10.2.toNat default).Kind)).toNat))) rfl (eo (s:= .empty) (ao g10_5_1).1 (ao g10_5_1).2) rfl (WH.ownStr (ByteArray.empty.push (UInt8.ofNat (IntKind.u8.wrap (((a0.getD s2.2.toNat default).getD s10.2.toNat default).Kind)).toNat)) tk rfl rfl rfl rfl rfl rfl rfl (Hr 1 tk rfl rfl rfl rfl ⟨(bD g10_6_1),tv⟩ (WH.call [] rfl (bm _ hx10_10_1) bn rfl rfl tv rfl rfl rfl rfl rfl (Hr 2 tk rfl rfl rfl rfl ⟨(bD g10_11_1),tv⟩ (Hn rfl (Lw q5 p1))))))
      ·exact WH.call [] rfl (bm _ hx10_10_1) bn rfl rfl tv rfl rfl rfl rfl rfl (WH.row 146 (bG (ByteArray.empty.push (UInt8.ofNat (IntKind.u8.wrap (((a0.getD s2.2.toNat default).getD s10.2.toNat default).Kind)).toNat))) rfl (eo (s:= .empty) (ao g10_5_1).1 (ao g10_5_1).2) rfl (WH.ownStr (ByteArray.empty.push (UInt8.ofNat (IntKind.u8.wrap (((a0.getD s2.2.toNat default).getD s10.2.toNat default).Kind)).toNat)) tk rfl rfl rfl rfl rfl rfl rfl (Hr 3 tk rfl rfl rfl rfl ⟨(bD g10_6_1),(bD g10_11_1),tv⟩ (Hn rfl (Lw q5 p1)))))
     ·exact WH.call [] rfl (bm _ hx10_10_1) bn rfl rfl tv rfl rfl rfl rfl rfl (He 146 tk ek rfl rfl rfl rfl tv rfl rfl (WH.row 146 (bG (ByteArray.empty.push (UInt8.ofNat (IntKind.u8.wrap (((a0.getD s2.2.toNat default).getD s10.2.toNat default).Kind)).toNat))) rfl (eo (s:= .empty) (ao g10_5_1).1 (ao g10_5_1).2) rfl (WH.ownStr (ByteArray.empty.push (UInt8.ofNat (IntKind.u8.wrap (((a0.getD s2.2.toNat default).getD s10.2.toNat default).Kind)).toNat)) tk rfl rfl rfl rfl rfl rfl rfl (Hr 3 tk rfl rfl rfl rfl ⟨(bD g10_6_1),(bD g10_11_1),tv⟩ (Hn rfl (Lw q5 p1))))))
    ·refine Qn (G (R 3 rfl (NQ (Wd rfl H (fun H=>?_) (fun H=>?_)))))
     ·refine Wg (R 4 rfl ?_)
      obtain ⟨x17,hx17,H⟩:=al H
      refine Cl [] (bm _ hx17) bn rfl tv rfl ?_
      obtain ⟨g18,H⟩:=av H
      refine RS 2 rfl ⟨(bD g18),tv⟩ (Wn (Qb (Qn ?_)))
      exact Wg (R 3 rfl (NQ (⟨⟨(k11,(((s10.1++(ByteArray.empty.push (UInt8.ofNat (IntKind.u8.wrap (((a0.getD s2.2.toNat default).getD s10.2.toNat default).Kind)).toNat)))++x10_10_1)++x17,IntKind.i64.wrap (s10.2+1))),H⟩,Z,Lm p4 tv⟩)))
     refine Wk (Qb (Qn ?_))
     exact Wg (R 3 rfl (NQ (⟨⟨(k11,((s10.1++(ByteArray.empty.push (UInt8.ofNat (IntKind.u8.wrap (((a0.getD s2.2.toNat default).getD s10.2.toNat default).Kind)).toNat)))++x10_10_1,IntKind.i64.wrap (s10.2+1))),H⟩,Z,Lm p4 tv⟩)))
   refine WC.exit (Qx (Qx (Qh (Qb (Qn ?_)))))
   exact ⟨s10.1,H,Lw q3 tv⟩
  ·rintro E m ⟨s6,H,hl⟩
   refine WC.lessW hl ?_
   replace H:=(hK5 _).symm.trans H
   try dsimp only at H
   exact Wg (R 3 rfl (NQ (⟨⟨(k3,(s6,IntKind.i64.wrap (s2.2+1))),H⟩,Z,Lm p3 tv⟩)))
 refine WC.exit (Qx (Qx (Qh (Qn ?_))))
 refine G (R 2 rfl (NQ (Wt ?_)))
 cases H
 exact Ea rfl rfl rfl tv
theorem xL:aE Tryz.prog 58 Tryz.f58:=⟨Tryz.func58,rfl,by kernel_rfl⟩
theorem xM (a0:ar) {r:ByteArray} (H:lC a0=some r):LJ.Spec Tryz.prog 59 [.d (.agg [.int .i64 a0.Op, .int .i64 a0.A, .int .i64 a0.B])] [] (.d (.str r)) []:=by
 refine LJ.Spec.code Tryz.func59 rfl 46 rfl rfl [] rfl fun w0 F0 S0 B0=>?_
 unfold lC at H
 refine G (Ef 101 rfl (R 1 rfl (NQ (Ws ?_))))
 obtain ⟨x1_2_1,hx1_2_1,H⟩:=al H
 refine WC.heldF [(1, .ptr 101 0),(3, .d (.str x1_2_1)),(4, .d (slT aG ([a0.A,a0.B]:List Int)))] [(101, .box 100 [.d (.int .i64 a0.Op), .d (.int .i64 a0.A), .d (.int .i64 a0.B)])] (sT 0 (sT 1 (sT 3 (sT 4 (sT 5 (sT 6 (fk (sf 2 (sT 8 (sf 7 (sT 9 sd)))) (sf 7 (sf 2 (sT 8 (sT 9 sd))))))))))) [101] [101] rfl (by kernel_rfl) rfl (by kernel_rfl) rfl rfl (fun _ h=>h) rfl rfl rfl (fun FK NK wK K=>?_) ?_
 ·refine Hr 6 tk rfl rfl rfl rfl tv (WH.fork ?_ ?_)
  ·exact WH.call [] rfl (gy _ hx1_2_1) gz rfl rfl tv rfl rfl rfl rfl rfl (Hr 1 tk rfl rfl rfl rfl tv (He 114 tk ek rfl rfl rfl rfl tv rfl rfl (WH.freezeT 114 aG ([a0.A,a0.B]:List Int) rfl rfl rfl rfl (WH.mv rfl rfl rfl rfl rfl rfl rfl rfl rfl (Hn rfl (Lw q3 p1))))))
  ·exact He 114 tk ek rfl rfl rfl rfl tv rfl rfl (WH.freezeT 114 aG ([a0.A,a0.B]:List Int) rfl rfl rfl rfl (WH.call [] rfl (gy _ hx1_2_1) gz rfl rfl tv rfl rfl rfl rfl rfl (Hr 1 tk rfl rfl rfl rfl tv (WH.mv rfl rfl rfl rfl rfl rfl rfl rfl rfl (Hn rfl (Lw q3 p1))))))
 ·refine Qn (G (R 3 rfl (Ef 118 rfl ?_)))
  obtain ⟨g1,H⟩:=av H
  refine WL.row 118 (bG (ByteArray.empty.push (UInt8.ofNat (IntKind.u8.wrap a0.Op).toNat))) rfl (eo (s:= .empty) (ao g1).1 (ao g1).2) rfl (WL.ownStr (ByteArray.empty.push (UInt8.ofNat (IntKind.u8.wrap a0.Op).toNat)) tk rfl rfl rfl rfl (R 1 rfl (NS (G (R 1 rfl (NQ (Wb (Wl (ι:= {x:Nat×(ByteArray×Int) //dz a0 x1_2_1 x.1 x.2=some r}) (fun x=>[(3, .d (.str x1_2_1)),(4, .d (slT aG ([a0.A,a0.B]:List Int))),(5, .d (.str x.1.2.1)),(6, .d (.int .i64 x.1.2.2))]) (fun x=>[]) (fun x=>x.1.1) ⟨(fuel,(ByteArray.empty.push (UInt8.ofNat (IntKind.u8.wrap a0.Op).toNat),0)),H⟩ (Lm p4 tv) fun x=>?_))))))))
  obtain ⟨⟨k3,s2⟩,H⟩:=x
  rcases k3 with _ | k3
  ·exact aQ H
  rw [dz] at H
  refine Ws (G (R 4 rfl (NQ (Wd rfl H (fun H=>?_) (fun H=>?_)))))
  ·refine Wk (Qn (Ws (Wb (G ?_))))
   obtain ⟨g5,H⟩:=av H
   refine RS 4 rfl ⟨(ao g5),tv⟩ (NQ (Wd rfl H (fun H=>?_) (fun H=>?_)))
   ·refine Wg ?_
    obtain ⟨g7,H⟩:=av H
    refine RS 5 rfl ⟨⟨(ao g7).1,(ao g7).2,rfl⟩,tv⟩ ?_
    obtain ⟨x8,hx8,H⟩:=al H
    refine Cl [] (gn _ hx8) gp rfl tv rfl ?_
    obtain ⟨g9,H⟩:=av H
    refine RS 2 rfl ⟨(bD g9),tv⟩ (Wn (Qb (Qn ?_)))
    exact Wg (R 3 rfl (NQ (⟨⟨(k3,(s2.1++x8,IntKind.i64.wrap (s2.2+1))),H⟩,Z,Lm p4 tv⟩)))
   refine Wg ?_
   obtain ⟨g10,H⟩:=av H
   refine RS 6 rfl ⟨⟨(ao g10).1,(ao g10).2,rfl⟩,tv⟩ ?_
   obtain ⟨x11,hx11,H⟩:=al H
   refine Cl [] (bm _ hx11) bn rfl tv rfl ?_
   obtain ⟨g12,H⟩:=av H
   refine RS 2 rfl ⟨(bD g12),tv⟩ (Wn (Qb (Qn ?_)))
   exact Wg (R 3 rfl (NQ (⟨⟨(k3,(s2.1++x11,IntKind.i64.wrap (s2.2+1))),H⟩,Z,Lm p4 tv⟩)))
  refine WC.exit (Qx (Qx (Qh (Qn ?_))))
  refine G (R 2 rfl (NQ (Wt ?_)))
  cases H
  exact Ea rfl rfl rfl tv
theorem xN:aE Tryz.prog 59 Tryz.f59:=⟨Tryz.func59,rfl,by kernel_rfl⟩
theorem xO (a0:aa) {r:ByteArray} (H:lD a0=some r):LJ.Spec Tryz.prog 31 [.d (.agg [slT aj a0.Decls,slT ab a0.Waits,slT ak a0.Funcs])] [] (.d (.str r)) []:=by
 refine LJ.Spec.code Tryz.func31 rfl 85 rfl rfl [] rfl fun w0 F0 S0 B0=>?_
 unfold lD at H
 refine G (Ef 101 rfl (R 1 rfl (NS (Hp (.one 0 true (.one 1 true (.one 4 true (.one 5 true (.one 6 true (.one 7 true (.one 2 false (.one 3 true (.one 8 false (.one 9 true (.one 10 true .done))))))))))) [101] [101] rfl (by kernel_rfl) rfl (by kernel_rfl) rfl rfl (fun _ h=>h) rfl rfl rfl (fun _ _ _ h=>h) fun FK NK wK K=>(Hr 6 tk rfl rfl rfl rfl tv ?_)))))
 obtain ⟨x1,hx1,H⟩:=al H
 refine WH.call [] rfl (xI _ hx1) xJ rfl rfl tv rfl rfl rfl rfl rfl ?_
 obtain ⟨g2,H⟩:=av H
 refine Hr 1 tk rfl rfl rfl rfl ⟨(bD g2),tv⟩ ?_
 obtain ⟨x3,hx3,H⟩:=al H
 refine WH.call [] rfl (bm _ hx3) bn rfl rfl tv rfl rfl rfl rfl rfl ?_
 obtain ⟨g4,H⟩:=av H
 refine Hr 2 tk rfl rfl rfl rfl ⟨(bD g4),tv⟩ (WH.nil rfl (Qn (Ws (G (R 1 rfl (NQ (Wb (Wl (ι:= {x:Nat×(ByteArray×Int) //fE a0 x.1 x.2=some r}) (fun x=>[(1, .ptr 101 0),(3, .d (.str x.1.2.1)),(4, .d (.int .i64 x.1.2.2))]) (fun x=>[(101, .box 28 [.d (slT aj a0.Decls), .d (slT ab a0.Waits), .d (slT ak a0.Funcs)])]) (fun x=>x.1.1) ⟨(fuel,(((⟨#[76,74,1]⟩:ByteArray)++x1)++x3,0)),H⟩ (Lm p3 p1) fun x=>?_))))))))
 obtain ⟨⟨k6,s5⟩,H⟩:=x
 rcases k6 with _ | k6
 ·exact aQ H
 rw [fE] at H
 refine Ws (G (R 5 rfl (NQ (Wd rfl H (fun H=>?_) (fun H=>?_)))))
 ·refine Wk (Qn (Ws (Wb (Wg ?_))))
  obtain ⟨g8,H⟩:=av H
  refine RS 6 rfl ⟨⟨(ao g8).1,(ao g8).2,rfl⟩,tv⟩ ?_
  obtain ⟨x9,hx9,H⟩:=al H
  refine Cl [] (xK _ hx9) xL rfl tv rfl ?_
  obtain ⟨g10,H⟩:=av H
  refine RS 2 rfl ⟨(bD g10),tv⟩ (Wn (Qb (Qn ?_)))
  exact Wg (R 3 rfl (NQ (⟨⟨(k6,(s5.1++x9,IntKind.i64.wrap (s5.2+1))),H⟩,Z,Lm p3 p1⟩)))
 refine WC.exit (Qx (Qx (Qh (Qn ?_))))
 refine G (R 5 rfl ?_)
 obtain ⟨x11,hx11,H⟩:=al H
 refine Cl [] (bm _ hx11) bn rfl tv rfl ?_
 obtain ⟨g12,H⟩:=av H
 refine RS 2 rfl ⟨(bD g12),tv⟩ (NS (G (R 1 rfl (NQ (Wb (Wl (ι:= {x:Nat×(ByteArray×Int) //dW a0 x.1 x.2=some r}) (fun x=>[(1, .ptr 101 0),(3, .d (.str x.1.2.1)),(5, .d (.int .i64 x.1.2.2))]) (fun x=>[(101, .box 28 [.d (slT aj a0.Decls), .d (slT ab a0.Waits), .d (slT ak a0.Funcs)])]) (fun x=>x.1.1) ⟨(fuel,(s5.1++x11,0)),H⟩ (Lm p3 p1) fun x=>?_))))))
 obtain ⟨⟨k14,s13⟩,H⟩:=x
 rcases k14 with _ | k14
 ·exact aQ H
 rw [dW] at H
 refine Ws (G (R 5 rfl (NQ (Wd rfl H (fun H=>?_) (fun H=>?_)))))
 ·refine Wk (Qn ?_)
  obtain ⟨K16,hK16,H⟩:=cR H
  refine WC.cut (fun E m=>∃ s17:ByteArray,K16 s17=some r∧gY E m [(1, .ptr 101 0),(3, .d (.str s17)),(5, .d (.int .i64 s13.2))] [(101, .box 28 [.d (slT aj a0.Decls), .d (slT ab a0.Waits), .d (slT ak a0.Funcs)])]) ?_ ?_
  ·refine Wb (G ?_)
   obtain ⟨g18,H⟩:=av H
   refine RS 5 rfl ⟨⟨(ao g18).1,(ao g18).2,rfl⟩,tv⟩ (Wa 106 tk rfl rfl rfl (Ef 0 rfl (NS (Hp (.one 0 true (.one 1 true (.one 2 true (.one 3 true (.one 6 true (.one 7 true (.one 8 true (.one 11 true (.one 12 true (.one 13 true (.one 14 true (.one 4 false (.one 5 true (.one 9 false (.one 10 true (.one 15 false (.one 16 true (.one 17 true .done)))))))))))))))))) [101,106] [101,106] rfl (by kernel_rfl) rfl (by kernel_rfl) rfl rfl (fun _ h=>h) rfl rfl rfl (fun _ _ _ h=>h) fun FK NK wK K=>(Hr 11 tk rfl rfl rfl rfl tv ?_)))))
   obtain ⟨x19,hx19,H⟩:=al H
   refine WH.call [] rfl (bm _ hx19) bn rfl rfl tv rfl rfl rfl rfl rfl ?_
   obtain ⟨g20,H⟩:=av H
   refine Hr 1 tk rfl rfl rfl rfl ⟨(bD g20),tv⟩ ?_
   obtain ⟨x21,hx21,H⟩:=al H
   refine WH.call [] rfl (bm _ hx21) bn rfl rfl tv rfl rfl rfl rfl rfl ?_
   obtain ⟨g22,H⟩:=av H
   refine Hr 1 tk rfl rfl rfl rfl ⟨(bD g22),tv⟩ ?_
   obtain ⟨x23,hx23,H⟩:=al H
   refine WH.call [] rfl (bm _ hx23) bn rfl rfl tv rfl rfl rfl rfl rfl ?_
   obtain ⟨g24,H⟩:=av H
   refine Hr 2 tk rfl rfl rfl rfl ⟨(bD g24),tv⟩ (WH.nil rfl (Qn (G (R 1 rfl (NQ (Wb (Wl (ι:= {x:Nat×(ByteArray×Int) //eP a0 s13 K16 x.1 x.2=some r}) (fun x=>[(1, .ptr 101 0),(3, .d (.str x.1.2.1)),(5, .d (.int .i64 s13.2)),(6, .ptr 106 0),(7, .d (.int .i64 x.1.2.2))]) (fun x=>[(101, .box 28 [.d (slT aj a0.Decls), .d (slT ab a0.Waits), .d (slT ak a0.Funcs)]),(106, .box 98 [.d (.int .i64 ((a0.Funcs.getD s13.2.toNat default).Args)), .d (.int .i64 ((a0.Funcs.getD s13.2.toNat default).Locals)), .d (slT aF ((a0.Funcs.getD s13.2.toNat default).Code))])]) (fun x=>x.1.1) ⟨(fuel,(((s13.1++x19)++x21)++x23,0)),H⟩ (Lm p5 p2) fun x=>?_)))))))
   obtain ⟨⟨k26,s25⟩,H⟩:=x
   rcases k26 with _ | k26
   ·exact aQ H
   rw [eP] at H
   refine Ws (G (R 5 rfl (NQ (Wd rfl H (fun H=>?_) (fun H=>?_)))))
   ·refine Wk (Qn (Ws (Wb (Wg ?_))))
    obtain ⟨g28,H⟩:=av H
    refine RS 6 rfl ⟨⟨(ao g28).1,(ao g28).2,rfl⟩,tv⟩ ?_
    obtain ⟨x29,hx29,H⟩:=al H
    refine Cl [] (xM _ hx29) xN rfl tv rfl ?_
    obtain ⟨g30,H⟩:=av H
    refine RS 2 rfl ⟨(bD g30),tv⟩ (Wn (Qb (Qn ?_)))
    exact Wg (R 3 rfl (NQ (⟨⟨(k26,(s25.1++x29,IntKind.i64.wrap (s25.2+1))),H⟩,Z,Lm p5 p2⟩)))
   refine WC.exit (Qx (Qx (Qh (Qb (Qn ?_)))))
   exact ⟨s25.1,H,Lw q3 p1⟩
  ·rintro E m ⟨s17,H,hl⟩
   refine WC.lessW hl ?_
   replace H:=(hK16 _).symm.trans H
   try dsimp only at H
   exact Wg (R 3 rfl (NQ (⟨⟨(k14,(s17,IntKind.i64.wrap (s13.2+1))),H⟩,Z,Lm p3 p1⟩)))
 refine WC.exit (Qx (Qx (Qh (Qn ?_))))
 refine G (R 2 rfl (NQ (Wt ?_)))
 cases H
 exact Ea rfl rfl rfl tv
theorem xP:aE Tryz.prog 31 Tryz.f31:=⟨Tryz.func31,rfl,by kernel_rfl⟩
theorem wg (a0:ByteArray) {r:ByteArray} (H:kc a0=some r):LJ.Spec Tryz.prog 30 [.d (.str a0)] [] (.d (.str r)) []:=by
 refine LJ.Spec.code Tryz.func30 rfl 9 rfl rfl [] rfl fun w0 F0 S0 B0=>?_
 unfold kc at H
 refine G (R 1 rfl (N (R 3 rfl ?_)))
 obtain ⟨x1,hx1,H⟩:=al H
 refine Cl [] (bm _ hx1) bn rfl tv rfl ?_
 obtain ⟨g2,H⟩:=av H
 refine RS 3 rfl ⟨(bD g2),tv⟩ (NQ (Wt ?_))
 cases H
 exact Ea rfl rfl rfl tv
theorem wh:aE Tryz.prog 30 Tryz.f30:=⟨Tryz.func30,rfl,by kernel_rfl⟩
theorem xQ (a0:aq) {r:ByteArray} (H:lF a0=some r):LJ.Spec Tryz.prog 13 [.d (.agg [.int .i64 a0.Config.Mode, .int .i64 a0.Config.Workers, .int .i64 a0.Config.Quantum, .int .i64 a0.Config.Policy,slT aj a0.Program.Decls,slT ab a0.Program.Waits,slT ak a0.Program.Funcs,slT aB a0.Events])] [] (.d (.str r)) []:=by
 refine LJ.Spec.code Tryz.func13 rfl 73 rfl rfl [] rfl fun w0 F0 S0 B0=>?_
 unfold lF at H
 refine G (Ef 101 rfl (R 1 rfl (N (R 2 rfl (Wa 103 tk rfl rfl rfl (Ef 0 rfl (NS (Hp (.one 0 true (.one 1 true (.one 2 true (.one 5 true (.one 6 true (.one 7 true (.one 10 true (.one 11 true (.one 12 true (.one 15 true (.one 16 true (.one 17 true (.one 3 false (.one 4 true (.one 8 false (.one 9 true (.one 13 false (.one 14 true (.one 18 false (.one 19 true (.one 20 true .done))))))))))))))))))))) [101,103] [101,103] rfl (by kernel_rfl) rfl (by kernel_rfl) rfl rfl (fun _ h=>h) rfl rfl rfl (fun _ _ _ h=>h) fun FK NK wK K=>(Hr 12 tk rfl rfl rfl rfl tv ?_)))))))))
 obtain ⟨x1,hx1,H⟩:=al H
 refine WH.call [] rfl (bm _ hx1) bn rfl rfl tv rfl rfl rfl rfl rfl ?_
 obtain ⟨g2,H⟩:=av H
 refine Hr 1 tk rfl rfl rfl rfl ⟨(bD g2),tv⟩ ?_
 obtain ⟨x3,hx3,H⟩:=al H
 refine WH.call [] rfl (bm _ hx3) bn rfl rfl tv rfl rfl rfl rfl rfl ?_
 obtain ⟨g4,H⟩:=av H
 refine Hr 1 tk rfl rfl rfl rfl ⟨(bD g4),tv⟩ ?_
 obtain ⟨x5,hx5,H⟩:=al H
 refine WH.call [] rfl (bm _ hx5) bn rfl rfl tv rfl rfl rfl rfl rfl ?_
 obtain ⟨g6,H⟩:=av H
 refine Hr 1 tk rfl rfl rfl rfl ⟨(bD g6),tv⟩ ?_
 obtain ⟨x7,hx7,H⟩:=al H
 refine WH.call [] rfl (bm _ hx7) bn rfl rfl tv rfl rfl rfl rfl rfl ?_
 obtain ⟨g8,H⟩:=av H
 refine Hr 2 tk rfl rfl rfl rfl ⟨(bD g8),tv⟩ (WH.nil rfl (Qn (Ws (Hp (.one 0 true (.one 1 true (.one 2 true (.one 6 true (.one 7 true (.one 8 true (.one 9 true (.one 3 false (.one 4 false (.one 5 true (.one 10 false (.one 11 true (.one 12 true .done))))))))))))) [101,103] [101,103] rfl (by kernel_rfl) rfl (by kernel_rfl) rfl rfl (fun _ h=>h) rfl rfl rfl (fun _ _ _ h=>h) fun FK NK wK K=>(Hr 7 tk rfl rfl rfl rfl tv ?_)))))
 obtain ⟨x9,hx9,H⟩:=al H
 refine WH.call [] rfl (xO _ hx9) xP rfl rfl tv rfl rfl rfl rfl rfl ?_
 obtain ⟨x10,hx10,H⟩:=al H
 refine WH.call [] rfl (wg _ hx10) wh rfl rfl tv rfl rfl rfl rfl rfl ?_
 obtain ⟨g11,H⟩:=av H
 refine Hr 1 tk rfl rfl rfl rfl ⟨(bD g11),tv⟩ ?_
 obtain ⟨x12,hx12,H⟩:=al H
 refine WH.call [] rfl (bm _ hx12) bn rfl rfl tv rfl rfl rfl rfl rfl ?_
 obtain ⟨g13,H⟩:=av H
 refine Hr 2 tk rfl rfl rfl rfl ⟨(bD g13),tv⟩ (WH.nil rfl (Qn (Ws (G (R 1 rfl (NQ (Wb (Wl (ι:= {x:Nat×(ByteArray×Int) //dX a0 x.1 x.2=some r}) (fun x=>[(1, .ptr 101 0),(4, .d (.str x.1.2.1)),(5, .d (.int .i64 x.1.2.2))]) (fun x=>[(101, .box 31 [.d (.int .i64 a0.Config.Mode), .d (.int .i64 a0.Config.Workers), .d (.int .i64 a0.Config.Quantum), .d (.int .i64 a0.Config.Policy), .d (slT aj a0.Program.Decls), .d (slT ab a0.Program.Waits), .d (slT ak a0.Program.Funcs), .d (slT aB a0.Events)])]) (fun x=>x.1.1) ⟨(fuel,(((((((⟨#[76,83,1]⟩:ByteArray)++x1)++x3)++x5)++x7)++x10)++x12,0)),H⟩ (Lm p3 p1) fun x=>?_))))))))
 obtain ⟨⟨k15,s14⟩,H⟩:=x
 rcases k15 with _ | k15
 ·exact aQ H
 rw [dX] at H
 refine Ws (G (R 5 rfl (NQ (Wd rfl H (fun H=>?_) (fun H=>?_)))))
 ·refine Wk (Qn (Ws (Wb (G ?_))))
  obtain ⟨g17,H⟩:=av H
  refine RS 5 rfl ⟨⟨(ao g17).1,(ao g17).2,rfl⟩,tv⟩ (Wa 106 tk rfl rfl rfl (Ef 0 rfl (NQ (Ws ?_))))
  obtain ⟨g8_5_1,H⟩:=av H
  obtain ⟨g8_6_1,H⟩:=av H
  obtain ⟨x8_9_1,hx8_9_1,H⟩:=al H
  obtain ⟨g8_10_1,H⟩:=av H
  refine WC.heldF [(1, .ptr 101 0),(4, .d (.str ((s14.1++(ByteArray.empty.push (UInt8.ofNat (IntKind.u8.wrap ((a0.Events.getD s14.2.toNat default).Kind)).toNat)))++x8_9_1))),(5, .d (.int .i64 s14.2)),(6, .ptr 106 0)] [(101, .box 31 [.d (.int .i64 a0.Config.Mode), .d (.int .i64 a0.Config.Workers), .d (.int .i64 a0.Config.Quantum), .d (.int .i64 a0.Config.Policy), .d (slT aj a0.Program.Decls), .d (slT ab a0.Program.Waits), .d (slT ak a0.Program.Funcs), .d (slT aB a0.Events)]),(106, .box 55 [.d (.int .i64 ((a0.Events.getD s14.2.toNat default).Kind)), .d (.int .i64 ((a0.Events.getD s14.2.toNat default).A)), .d (.int .i64 ((a0.Events.getD s14.2.toNat default).B))])] (sT 0 (sT 1 (sT 2 (sT 3 (sT 7 (sT 8 (fk (sf 4 (fk (sf 5 (sT 6 (sf 9 (sT 10 (sT 11 sd))))) (sf 9 (sf 5 (sT 6 (sT 10 (sT 11 sd))))))) (sf 9 (sf 4 (sf 5 (sT 6 (sT 10 (sT 11 sd))))))))))))) [101,106] [101,106] rfl (by kernel_rfl) rfl (by kernel_rfl) rfl rfl (fun _ h=>h) rfl rfl rfl (fun FK NK wK K=>?_) ?_
  ·refine Hr 6 tk rfl rfl rfl rfl tv (WH.fork ?_ ?_)
   ·refine He 157 tk ek rfl rfl rfl rfl tv rfl rfl (WH.fork ?_ ?_)
    ·exact WH.row 157 (bG (ByteArray.empty.push (UInt8.ofNat (IntKind.u8.wrap ((a0.Events.getD s14.2.toNat default).Kind)).toNat))) rfl (eo (s:= .empty) (ao g8_5_1).1 (ao g8_5_1).2) rfl (WH.ownStr (ByteArray.empty.push (UInt8.ofNat (IntKind.u8.wrap ((a0.Events.getD s14.2.toNat default).Kind)).toNat)) tk rfl rfl rfl rfl rfl rfl rfl (Hr 1 tk rfl rfl rfl rfl ⟨(bD g8_6_1),tv⟩ (WH.call [] rfl (gn _ hx8_9_1) gp rfl rfl tv rfl rfl rfl rfl rfl (Hr 2 tk rfl rfl rfl rfl ⟨(bD g8_10_1),tv⟩ (Hn rfl (Lw q4 p2))))))
    ·exact WH.call [] rfl (gn _ hx8_9_1) gp rfl rfl tv rfl rfl rfl rfl rfl (WH.row 157 (bG (ByteArray.empty.push (UInt8.ofNat (IntKind.u8.wrap ((a0.Events.getD s14.2.toNat default).Kind)).toNat))) rfl (eo (s:= .empty) (ao g8_5_1).1 (ao g8_5_1).2) rfl (WH.ownStr (ByteArray.empty.push (UInt8.ofNat (IntKind.u8.wrap ((a0.Events.getD s14.2.toNat default).Kind)).toNat)) tk rfl rfl rfl rfl rfl rfl rfl (Hr 3 tk rfl rfl rfl rfl ⟨(bD g8_6_1),(bD g8_10_1),tv⟩ (Hn rfl (Lw q4 p2)))))
   ·exact WH.call [] rfl (gn _ hx8_9_1) gp rfl rfl tv rfl rfl rfl rfl rfl (He 157 tk ek rfl rfl rfl rfl tv rfl rfl (WH.row 157 (bG (ByteArray.empty.push (UInt8.ofNat (IntKind.u8.wrap ((a0.Events.getD s14.2.toNat default).Kind)).toNat))) rfl (eo (s:= .empty) (ao g8_5_1).1 (ao g8_5_1).2) rfl (WH.ownStr (ByteArray.empty.push (UInt8.ofNat (IntKind.u8.wrap ((a0.Events.getD s14.2.toNat default).Kind)).toNat)) tk rfl rfl rfl rfl rfl rfl rfl (Hr 3 tk rfl rfl rfl rfl ⟨(bD g8_6_1),(bD g8_10_1),tv⟩ (Hn rfl (Lw q4 p2))))))
  ·refine Qn (G (R 3 rfl (NQ (Wd rfl H (fun H=>?_) (fun H=>?_)))))
   ·refine Wg (R 3 rfl ?_)
    obtain ⟨x19,hx19,H⟩:=al H
    refine Cl [] (gn _ hx19) gp rfl tv rfl ?_
    obtain ⟨g20,H⟩:=av H
    refine RS 2 rfl ⟨(bD g20),tv⟩ (Wn (Qb (Qn ?_)))
    exact Wg (R 3 rfl (NQ (⟨⟨(k15,(((s14.1++(ByteArray.empty.push (UInt8.ofNat (IntKind.u8.wrap ((a0.Events.getD s14.2.toNat default).Kind)).toNat)))++x8_9_1)++x19,IntKind.i64.wrap (s14.2+1))),H⟩,Z,Lm p3 p1⟩)))
   refine Wk (Qb (Qn ?_))
   exact Wg (R 3 rfl (NQ (⟨⟨(k15,((s14.1++(ByteArray.empty.push (UInt8.ofNat (IntKind.u8.wrap ((a0.Events.getD s14.2.toNat default).Kind)).toNat)))++x8_9_1,IntKind.i64.wrap (s14.2+1))),H⟩,Z,Lm p3 p1⟩)))
 refine WC.exit (Qx (Qx (Qh (Qn ?_))))
 refine G (R 2 rfl (NQ (Wt ?_)))
 cases H
 exact Ea rfl rfl rfl tv
theorem xR:aE Tryz.prog 13 Tryz.f13:=⟨Tryz.func13,rfl,by kernel_rfl⟩
theorem oJ {r:aq} (H:kH=some r):LJ.Spec Tryz.prog 33 [] [] (.d (.agg [.int .i64 r.Config.Mode, .int .i64 r.Config.Workers, .int .i64 r.Config.Quantum, .int .i64 r.Config.Policy,slT aj r.Program.Decls,slT ab r.Program.Waits,slT ak r.Program.Funcs,slT aB r.Events])) []:=by
 refine LJ.Spec.code Tryz.func33 rfl 12 rfl rfl [] rfl fun w0 F0 S0 B0=>?_
 unfold kH at H
 refine G (Wa 100 tk rfl rfl rfl (N (R 3 rfl (Ef 104 rfl (WL.freezeT 104 aF ([(⟨22,0,0⟩:ar),(⟨21,0,0⟩:ar)]:List ar) rfl rfl rfl rfl (R 1 rfl (Ef 106 rfl (WL.freezeT 106 ak ([(⟨0,0,([(⟨22,0,0⟩:ar),(⟨21,0,0⟩:ar)]:List ar)⟩:ax)]:List ax) rfl rfl rfl rfl (R 1 rfl (WL.le 7 (.agg [slT aj [],slT ab [],slT ak ([(⟨0,0,([(⟨22,0,0⟩:ar),(⟨21,0,0⟩:ar)]:List ar)⟩:ax)]:List ax)]) rfl (Le.agg (.cons (Le.nilT aj) (.cons (Le.nilT ab) (.cons .rfl' .nil)))) (R 2 rfl (Ef 110 rfl ?_))))))))))))
 refine WL.freezeT 110 aB ([(⟨1,0,1⟩:ay),(⟨2,5,0⟩:ay)]:List ay) rfl rfl rfl rfl (R 1 rfl (Ef 0 rfl (NQ (Wt ?_))))
 cases H
 exact Ends.autoC tk rfl rfl rfl tv
theorem oK:aE Tryz.prog 33 Tryz.f33:=⟨Tryz.func33,rfl,by kernel_rfl⟩
theorem gA (a0:ByteArray) (a1:ByteArray) {r:Bool} (H:cj a0 a1=some r):LJ.Spec Tryz.prog 91 [.d (.str a0), .d (.str a1)] [] (.d (.bool r)) []:=by
 refine LJ.Spec.code Tryz.func91 rfl 18 rfl rfl [] rfl fun w0 F0 S0 B0=>?_
 unfold cj at H
 refine G (R 1 rfl (N (R 6 rfl ?_)))
 obtain ⟨g1,H⟩:=fW H
 refine Wx 6 5 true tk sg0 rfl rfl (fun hb=>⟨(vf (g1 hb)),tv⟩) (RS 2 rfl ⟨by first | exact id | exact fun h=>by rw [h];rfl | simp_all,tv⟩ (NQ (Wt ?_)))
 cases H
 exact Ea rfl rfl rfl tv
theorem gB:aE Tryz.prog 91 Tryz.f91:=⟨Tryz.func91,rfl,by kernel_rfl⟩
theorem kv (a0:ByteArray) (a1:ByteArray) {r:ByteArray×Bool} (H:dK a0 a1=some r):LJ.Spec Tryz.prog 60 [.d (.str a0), .d (.str a1)] [] (.tup [.d (.str r.1), .d (.bool r.2)]) []:=by
 refine LJ.Spec.code Tryz.func60 rfl 15 rfl rfl [] rfl fun w0 F0 S0 B0=>?_
 unfold dK at H
 refine G (R 2 rfl (NS (G (R 2 rfl ?_))))
 obtain ⟨x1,hx1,H⟩:=al H
 refine Cl [] (gA _ _ hx1) gB rfl tv rfl (R 1 rfl (NQ (Wd rfl H (fun H=>?_) (fun H=>?_))))
 ·refine G (R 3 rfl (NQ (Wt (QT.r ?_))))
  cases H
  exact Ea rfl rfl rfl tv
 refine Wk (Qn (G ?_))
 obtain ⟨g3,H⟩:=av H
 refine RS 6 rfl ⟨(vf g3),tv⟩ (NQ (Wt ?_))
 cases H
 exact Ea rfl rfl rfl tv
theorem kz:aE Tryz.prog 60 Tryz.f60:=⟨Tryz.func60,rfl,by kernel_rfl⟩
theorem nc (a0:ByteArray) (a1:ByteArray) {r:ByteArray×Bool} (H:fL a0 a1=some r):LJ.Spec Tryz.prog 34 [.d (.str a0), .d (.str a1)] [] (.tup [.d (.str r.1), .d (.bool r.2)]) []:=by
 refine LJ.Spec.code Tryz.func34 rfl 11 rfl rfl [] rfl fun w0 F0 S0 B0=>?_
 unfold fL at H
 refine G (R 2 rfl (N (R 2 rfl ?_)))
 obtain ⟨x1,hx1,H⟩:=al H
 refine Cl [] (kv _ _ hx1) kz rfl tv rfl (R 4 rfl (NQ (Wt ?_)))
 cases H
 exact Ea rfl rfl rfl tv
theorem nf:aE Tryz.prog 34 Tryz.f34:=⟨Tryz.func34,rfl,by kernel_rfl⟩
theorem wi (a0:ByteArray) {r:an} (H:fg a0=some r):LJ.Spec Tryz.prog 36 [.d (.str a0)] [] (.ptr 0 0) [(0, .box 131 [.d (.str r.s), .d (.int .i64 r.at_), .d (.int .i64 r.err)])]:=by
 refine LJ.Spec.code Tryz.func36 rfl 6 rfl rfl [] rfl fun w0 F0 S0 B0=>?_
 unfold fg at H
 refine G (R 1 rfl (N (R 2 rfl (Ef 0 rfl (R 1 rfl (NQ (Wt ?_)))))))
 cases H
 exact Ea rfl rfl rfl p1
theorem iP (n0:Nat) (hn:cL [n0]=true) (a0:ByteArray) {r:an} (H:fg a0=some r):LJ.Spec Tryz.prog 36 [.d (.str a0)] [] (.ptr n0 0) [(n0, .box 131 [.d (.str r.s), .d (.int .i64 r.at_), .d (.int .i64 r.err)])]:=
 Spec.names [n0] hn rfl rfl (wi a0 H)
theorem iQ:aE Tryz.prog 36 Tryz.f36:=⟨Tryz.func36,rfl,by kernel_rfl⟩
theorem rR (a0:an) (a1:Int) {r:an} (H:dq a0 a1=some r):LJ.Spec Tryz.prog 92 [.ptr 0 0, .d (.int .i64 a1)] [(0, .box 131 [.d (.str a0.s), .d (.int .i64 a0.at_), .d (.int .i64 a0.err)])] (.tup []) [(0, .box 131 [.d (.str r.s), .d (.int .i64 r.at_), .d (.int .i64 r.err)])]:=by
 refine LJ.Spec.code Tryz.func92 rfl 21 rfl rfl [0] rfl fun w0 F0 S0 B0=>?_
 unfold dq at H
 refine G (R 5 rfl (NQ (Wd rfl H (fun H=>?_) (fun H=>?_))))
 ·refine Wg (R 10 rfl (Ef 0 rfl (R 2 rfl (Ef 0 rfl (Wn ?_)))))
  cases H
  exact Ends.auton rfl rfl rfl p1
 refine Wk ?_
 cases H
 exact Ends.auton rfl rfl rfl p1
theorem jE (n0:Nat) (hn:cL [n0]=true) (a0:an) (a1:Int) {r:an} (H:dq a0 a1=some r):LJ.Spec Tryz.prog 92 [.ptr n0 0, .d (.int .i64 a1)] [(n0, .box 131 [.d (.str a0.s), .d (.int .i64 a0.at_), .d (.int .i64 a0.err)])] (.tup []) [(n0, .box 131 [.d (.str r.s), .d (.int .i64 r.at_), .d (.int .i64 r.err)])]:=
 Spec.names [n0] hn rfl rfl (rR a0 a1 H)
theorem jF:aE Tryz.prog 92 Tryz.f92:=⟨Tryz.func92,rfl,by kernel_rfl⟩
theorem rS (a0:an) {r:Int×an} (H:cd a0=some r):LJ.Spec Tryz.prog 96 [.ptr 0 0] [(0, .box 131 [.d (.str a0.s), .d (.int .i64 a0.at_), .d (.int .i64 a0.err)])] (.d (.int .i64 r.1)) [(0, .box 131 [.d (.str r.2.s), .d (.int .i64 r.2.at_), .d (.int .i64 r.2.err)])]:=by
 refine LJ.Spec.code Tryz.func96 rfl 35 rfl rfl [0] rfl fun w0 F0 S0 B0=>?_
 unfold cd at H
 refine G (R 1 rfl (NS (G (R 2 rfl (NQ (Wc rfl (fun h=>absurd h (by decide)) (fun h=>?_)))))))
 refine Wk (Qn (Ws (Ws (Hp (.one 0 true (.one 1 true (.one 2 true (.one 3 true (.one 4 true (.one 5 true (.one 6 true (.one 7 true (.one 8 true (.one 9 true .done)))))))))) [0] [0] rfl (by kernel_rfl) rfl (by kernel_rfl) rfl rfl (fun _ h=>h) rfl rfl rfl (fun _ _ _ h=>h) fun FK NK wK K=>(Hr 10 tk rfl rfl rfl rfl tv (WH.nil rfl (Qn (Wd rfl H (fun H=>?_) (fun H=>?_)))))))))
 ·refine G (R 1 rfl ?_)
  obtain ⟨x2,hx2,H⟩:=al H
  refine Cl [] (jE 0 rfl _ _ hx2) jF rfl p1 rfl (N (R 1 rfl (NQ (Wt (QT.r ?_)))))
  cases H
  exact Ea rfl rfl rfl p1
 refine Wk (Qn (G (R 7 rfl (Ef 0 rfl (NS (Hp (.one 0 true (.one 1 true (.one 2 true (.one 3 true (.one 4 true (.one 5 true (.one 6 true (.one 7 true (.one 8 true (.one 9 true (.one 10 true (.one 11 true .done)))))))))))) [0] [0] rfl (by kernel_rfl) rfl (by kernel_rfl) rfl rfl (fun _ h=>h) rfl rfl rfl (fun _ _ _ h=>h) fun FK NK wK K=>?_))))))
 obtain ⟨g3,H⟩:=av H
 refine Hr 12 tk rfl rfl rfl rfl ⟨(ao g3),tv⟩ (WH.nil rfl (Qn (Wt ?_)))
 cases H
 exact Ea rfl rfl rfl p1
theorem fH (n0:Nat) (hn:cL [n0]=true) (a0:an) {r:Int×an} (H:cd a0=some r):LJ.Spec Tryz.prog 96 [.ptr n0 0] [(n0, .box 131 [.d (.str a0.s), .d (.int .i64 a0.at_), .d (.int .i64 a0.err)])] (.d (.int .i64 r.1)) [(n0, .box 131 [.d (.str r.2.s), .d (.int .i64 r.2.at_), .d (.int .i64 r.2.err)])]:=
 Spec.names [n0] hn rfl rfl (rS a0 H)
theorem fI:aE Tryz.prog 96 Tryz.f96:=⟨Tryz.func96,rfl,by kernel_rfl⟩
theorem sv (a0:an) {r:Int×an} (H:bK a0=some r):LJ.Spec Tryz.prog 65 [.ptr 0 0] [(0, .box 131 [.d (.str a0.s), .d (.int .i64 a0.at_), .d (.int .i64 a0.err)])] (.d (.int .u64 r.1)) [(0, .box 131 [.d (.str r.2.s), .d (.int .i64 r.2.at_), .d (.int .i64 r.2.err)])]:=by
 refine LJ.Spec.code Tryz.func65 rfl 49 rfl rfl [0] rfl fun w0 F0 S0 B0=>?_
 unfold bK at H
 refine G (R 1 rfl (N (R 1 rfl (NS (G (R 1 rfl (NQ (Wb (Wl (ι:= {x:Nat×(Int×Int×ByteArray×Int×Int) //c9 x.1 x.2=some r}) (fun x=>[(0, .ptr 0 0),(3, .d (.int .u64 x.1.2.1)),(6, .d (.int .i64 x.1.2.2.1))]) (fun x=>[(0, .box 131 [.d (.str x.1.2.2.2.1), .d (.int .i64 x.1.2.2.2.2.1), .d (.int .i64 x.1.2.2.2.2.2)])]) (fun x=>x.1.1) ⟨(fuel,(0,0,a0.s,a0.at_,a0.err)),H⟩ (Lm p3 p1) fun x=>?_)))))))))
 obtain ⟨⟨k2,s1⟩,H⟩:=x
 rcases k2 with _ | k2
 ·exact aQ H
 rw [c9] at H
 refine G (R 1 rfl (NS (Wd rfl H (fun H=>?_) (fun H=>?_))))
 ·refine Wk (Qn (Ws (Wb (G (R 2 rfl (N (R 1 rfl ?_)))))))
  obtain ⟨x4,hx4,H⟩:=al H
  refine Cl [] (fH 0 rfl _ hx4) fI rfl p1 rfl (R 1 rfl (NS (G (R 3 rfl (WL.grun 5 2 false 13 tk sg0 rfl rfl rfl rfl tv (WL.pickF rfl rfl rfl rfl rfl rfl (NQ (Wd rfl H (fun H=>?_) (fun H=>?_)))))))))
  ·refine G (R 1 rfl (NQ (Wt (QT.r (QB.r (QT.r (QT.r (QB.r (QT.r ?_)))))))))
   cases H
   exact Ea rfl rfl rfl p1
  refine Wk (Qn (Ws (G (R 3 rfl (Wx 2 2 true tk sg0 rfl rfl (fun _=>tv) (RS 2 rfl ⟨by first | exact id | exact fun h=>by rw [h];rfl | simp_all,tv⟩ (Wx 3 6 false tk sg0 rfl rfl (fun _=>tv) (Wx 2 9 true tk sg0 rfl rfl (fun _=>tv) (Wx 1 6 false tk sg0 rfl rfl (fun hb=>⟨by first | exact id | exact ⟨hb,fun h=>by rw [hb,h];rfl⟩ | exact ⟨hb,id⟩ | exact fun h=>by rw [hb,h];rfl | exact fun h=>by rw [h];rfl | simp_all,tv⟩) (RS 1 rfl ⟨by first | exact id | exact fun h=>by rw [h];rfl | simp_all,tv⟩ (NQ (Wd rfl H (fun H=>?_) (fun H=>?_)))))))))))))
  ·refine G (R 1 rfl ?_)
   obtain ⟨x7,hx7,H⟩:=al H
   refine Cl [] (jE 0 rfl _ _ hx7) jF rfl p1 rfl (N (R 1 rfl (NQ (Wt (QT.r (QB.r (QT.r (QT.r (QB.r (QT.r ?_))))))))))
   cases H
   exact Ea rfl rfl rfl p1
  refine Wk (Qn (G ?_))
  obtain ⟨g8,H⟩:=av H
  refine RS 9 rfl ⟨(A3 g8),tv⟩ (N (R 2 rfl (NQ (Wd rfl H (fun H=>?_) (fun H=>?_)))))
  ·refine G (R 2 rfl (NQ (Wt (QB.r (QT.r (QT.r (QB.r (QT.r ?_))))))))
   cases H
   exact Ea rfl rfl rfl p1
  refine Wk (Qb (Qn ?_))
  exact Wg (R 2 rfl (NQ (⟨⟨(k2,(Go.bits .or .u64 s1.1 (IntKind.u64.wrap ((IntKind.u64.wrap (Go.bits .and .i64 x4.1 127))*2 ^min (IntKind.i64.wrap ((7:Int)*s1.2.1):Int).toNat IntKind.u64.bits)),IntKind.i64.wrap (s1.2.1+1),x4.2.s,x4.2.at_,x4.2.err)),H⟩,Z,Lm p3 p1⟩)))
 refine WC.exit (Qx (Qx (Qh (Qn ?_))))
 refine G (R 2 rfl (NQ (Wt ?_)))
 cases H
 exact Ea rfl rfl rfl p1
theorem cw (n0:Nat) (hn:cL [n0]=true) (a0:an) {r:Int×an} (H:bK a0=some r):LJ.Spec Tryz.prog 65 [.ptr n0 0] [(n0, .box 131 [.d (.str a0.s), .d (.int .i64 a0.at_), .d (.int .i64 a0.err)])] (.d (.int .u64 r.1)) [(n0, .box 131 [.d (.str r.2.s), .d (.int .i64 r.2.at_), .d (.int .i64 r.2.err)])]:=
 Spec.names [n0] hn rfl rfl (sv a0 H)
theorem cx:aE Tryz.prog 65 Tryz.f65:=⟨Tryz.func65,rfl,by kernel_rfl⟩
theorem wj (a0:an) {r:Int×an} (H:fM a0=some r):LJ.Spec Tryz.prog 61 [.ptr 0 0] [(0, .box 131 [.d (.str a0.s), .d (.int .i64 a0.at_), .d (.int .i64 a0.err)])] (.d (.int .i64 r.1)) [(0, .box 131 [.d (.str r.2.s), .d (.int .i64 r.2.at_), .d (.int .i64 r.2.err)])]:=by
 refine LJ.Spec.code Tryz.func61 rfl 7 rfl rfl [0] rfl fun w0 F0 S0 B0=>?_
 unfold fM at H
 refine G (R 1 rfl (N (R 1 rfl ?_)))
 obtain ⟨x1,hx1,H⟩:=al H
 refine Cl [] (cw 0 rfl _ hx1) cx rfl p1 rfl (WL.yv (LJ.Y.min rfl rfl rfl) rfl rfl rfl (R 2 rfl (NQ (Wt ?_))))
 cases H
 exact Ea rfl rfl rfl p1
theorem jT (n0:Nat) (hn:cL [n0]=true) (a0:an) {r:Int×an} (H:fM a0=some r):LJ.Spec Tryz.prog 61 [.ptr n0 0] [(n0, .box 131 [.d (.str a0.s), .d (.int .i64 a0.at_), .d (.int .i64 a0.err)])] (.d (.int .i64 r.1)) [(n0, .box 131 [.d (.str r.2.s), .d (.int .i64 r.2.at_), .d (.int .i64 r.2.err)])]:=
 Spec.names [n0] hn rfl rfl (wj a0 H)
theorem jU:aE Tryz.prog 61 Tryz.f61:=⟨Tryz.func61,rfl,by kernel_rfl⟩
theorem rT (a0:an) {r:ByteArray×an} (H:fN a0=some r):LJ.Spec Tryz.prog 62 [.ptr 0 0] [(0, .box 131 [.d (.str a0.s), .d (.int .i64 a0.at_), .d (.int .i64 a0.err)])] (.d (.str r.1)) [(0, .box 131 [.d (.str r.2.s), .d (.int .i64 r.2.at_), .d (.int .i64 r.2.err)])]:=by
 refine LJ.Spec.code Tryz.func62 rfl 48 rfl rfl [0] rfl fun w0 F0 S0 B0=>?_
 unfold fN at H
 refine G (R 1 rfl (N (R 1 rfl ?_)))
 obtain ⟨x1,hx1,H⟩:=al H
 refine Cl [] (cw 0 rfl _ hx1) cx rfl p1 rfl (R 1 rfl (NS (G (R 2 rfl (NQ (Wc rfl (fun h=>absurd h (by decide)) (fun h=>?_)))))))
 refine Wk (Qn (Ws (Ws (Hp (.one 0 true (.one 1 true (.one 2 true (.one 3 true (.one 4 true (.one 5 true (.one 6 true (.one 7 true (.one 8 true (.one 9 true (.one 10 true (.one 11 true (.one 12 true .done))))))))))))) [0] [0] rfl (by kernel_rfl) rfl (by kernel_rfl) rfl rfl (fun _ h=>h) rfl rfl rfl (fun _ _ _ h=>h) fun FK NK wK K=>(Hr 13 tk rfl rfl rfl rfl tv (WH.nil rfl (Qn (Wd rfl H (fun H=>?_) (fun H=>?_)))))))))
 ·refine G (R 1 rfl ?_)
  obtain ⟨x3,hx3,H⟩:=al H
  refine Cl [] (jE 0 rfl _ _ hx3) jF rfl p1 rfl (N (R 1 rfl (NQ (Wt (QT.r ?_)))))
  cases H
  exact Ea rfl rfl rfl p1
 refine Wk (Qn (G (R 9 rfl (Ef 0 rfl (NS (Hp (.one 0 true (.one 1 true (.one 2 true (.one 3 true (.one 4 true (.one 5 true (.one 6 true (.one 7 true (.one 8 true (.one 9 true (.one 10 true (.one 11 true (.one 12 true (.one 13 true (.one 14 true (.one 15 true (.one 16 true .done))))))))))))))))) [0] [0] rfl (by kernel_rfl) rfl (by kernel_rfl) rfl rfl (fun _ h=>h) rfl rfl rfl (fun _ _ _ h=>h) fun FK NK wK K=>?_))))))
 obtain ⟨g4,H⟩:=av H
 refine Hr 17 tk rfl rfl rfl rfl ⟨(vg g4),tv⟩ (WH.nil rfl (Qn (Wt ?_)))
 cases H
 exact Ea rfl rfl rfl p1
theorem rU (n0:Nat) (hn:cL [n0]=true) (a0:an) {r:ByteArray×an} (H:fN a0=some r):LJ.Spec Tryz.prog 62 [.ptr n0 0] [(n0, .box 131 [.d (.str a0.s), .d (.int .i64 a0.at_), .d (.int .i64 a0.err)])] (.d (.str r.1)) [(n0, .box 131 [.d (.str r.2.s), .d (.int .i64 r.2.at_), .d (.int .i64 r.2.err)])]:=
 Spec.names [n0] hn rfl rfl (rT a0 H)
theorem rV:aE Tryz.prog 62 Tryz.f62:=⟨Tryz.func62,rfl,by kernel_rfl⟩
theorem sw (a0:an) {r:Int} (H:bk a0=some r):LJ.Spec Tryz.prog 63 [.ptr 0 0] [(0, .box 131 [.d (.str a0.s), .d (.int .i64 a0.at_), .d (.int .i64 a0.err)])] (.d (.int .i64 r)) [(0, .box 131 [.d (.str a0.s), .d (.int .i64 a0.at_), .d (.int .i64 a0.err)])]:=by
 refine LJ.Spec.code Tryz.func63 rfl 9 rfl rfl [0] rfl fun w0 F0 S0 B0=>?_
 unfold bk at H
 refine G (R 1 rfl (NS (G (R 2 rfl (NQ (Wc rfl (fun h=>absurd h (by decide)) (fun h=>?_)))))))
 refine Wk (Qn (G (R 5 rfl (NQ (Wt ?_)))))
 cases H
 exact Ea rfl rfl rfl p1
theorem aZ (n0:Nat) (hn:cL [n0]=true) (a0:an) {r:Int} (H:bk a0=some r):LJ.Spec Tryz.prog 63 [.ptr n0 0] [(n0, .box 131 [.d (.str a0.s), .d (.int .i64 a0.at_), .d (.int .i64 a0.err)])] (.d (.int .i64 r)) [(n0, .box 131 [.d (.str a0.s), .d (.int .i64 a0.at_), .d (.int .i64 a0.err)])]:=
 Spec.names [n0] hn rfl rfl (sw a0 H)
theorem ba:aE Tryz.prog 63 Tryz.f63:=⟨Tryz.func63,rfl,by kernel_rfl⟩
theorem ng (a0:ByteArray) (a1:ByteArray) {r:Bool} (H:fO a0 a1=some r):LJ.Spec Tryz.prog 94 [.d (.str a0), .d (.str a1)] [] (.d (.bool r)) []:=by
 refine LJ.Spec.code Tryz.func94 rfl 8 rfl rfl [] rfl fun w0 F0 S0 B0=>?_
 unfold fO at H
 refine G (R 1 rfl (N (R 2 rfl ?_)))
 obtain ⟨x1,hx1,H⟩:=al H
 refine Cl [] (gA _ _ hx1) gB rfl tv rfl (R 1 rfl (NQ (Wt ?_)))
 cases H
 exact Ea rfl rfl rfl tv
theorem nh:aE Tryz.prog 94 Tryz.f94:=⟨Tryz.func94,rfl,by kernel_rfl⟩
theorem xS (a0:Int) {r:ByteArray} (H:lG a0=some r):LJ.Spec Tryz.prog 150 [.d (.int .i64 a0)] [] (.d (.str r)) []:=by
 refine LJ.Spec.code Tryz.func150 rfl 18 rfl rfl [] rfl fun w0 F0 S0 B0=>?_
 unfold lG at H
 refine G (R 1 rfl (NS (G (R 1 rfl (NQ (Wb (G (R 2 rfl (NQ (Wd rfl H (fun H=>?_) (fun H=>?_)))))))))))
 ·refine G (R 1 rfl (NQ (Wt (QB.r (QT.r ?_)))))
  cases H
  exact Ea rfl rfl rfl tv
 refine G (R 2 rfl (NQ (Wd rfl H (fun H=>?_) (fun H=>?_))))
 ·refine G (R 1 rfl (NQ (Wt (QB.r (QT.r ?_)))))
  cases H
  exact Ea rfl rfl rfl tv
 refine G (R 2 rfl (NQ (Wd rfl H (fun H=>?_) (fun H=>?_))))
 ·refine G (R 1 rfl (NQ (Wt (QB.r (QT.r ?_)))))
  cases H
  exact Ea rfl rfl rfl tv
 refine G (R 2 rfl (NQ (Wd rfl H (fun H=>?_) (fun H=>?_))))
 ·refine G (R 1 rfl (NQ (Wt (QB.r (QT.r ?_)))))
  cases H
  exact Ea rfl rfl rfl tv
 refine G (R 2 rfl (NQ (Wd rfl H (fun H=>?_) (fun H=>?_))))
 ·refine G (R 1 rfl (NQ (Wt (QB.r (QT.r ?_)))))
  cases H
  exact Ea rfl rfl rfl tv
 refine G (R 2 rfl (NQ (Wd rfl H (fun H=>?_) (fun H=>?_))))
 ·refine G (R 1 rfl (NQ (Wt (QB.r (QT.r ?_)))))
  cases H
  exact Ea rfl rfl rfl tv
 refine G (R 2 rfl (NQ (Wd rfl H (fun H=>?_) (fun H=>?_))))
 ·refine G (R 1 rfl (NQ (Wt (QB.r (QT.r ?_)))))
  cases H
  exact Ea rfl rfl rfl tv
 refine Wk (Qb (Qn ?_))
 refine G (R 1 rfl (NQ (Wt ?_)))
 cases H
 exact Ea rfl rfl rfl tv
theorem xT:aE Tryz.prog 150 Tryz.f150:=⟨Tryz.func150,rfl,by kernel_rfl⟩
theorem z8 (a0:an) {r:Int×an} (H:i9 a0=some r):LJ.Spec Tryz.prog 151 [.ptr 0 0] [(0, .box 131 [.d (.str a0.s), .d (.int .i64 a0.at_), .d (.int .i64 a0.err)])] (.d (.int .i64 r.1)) [(0, .box 131 [.d (.str r.2.s), .d (.int .i64 r.2.at_), .d (.int .i64 r.2.err)])]:=by
 refine LJ.Spec.code Tryz.func151 rfl 7 rfl rfl [0] rfl fun w0 F0 S0 B0=>?_
 unfold i9 at H
 refine G (R 1 rfl (N (R 1 rfl ?_)))
 obtain ⟨x1,hx1,H⟩:=al H
 refine Cl [] (cw 0 rfl _ hx1) cx rfl p1 rfl (WL.yv (LJ.Y.min rfl rfl rfl) rfl rfl rfl (R 2 rfl (NQ (Wt ?_))))
 cases H
 exact Ea rfl rfl rfl p1
theorem mB (n0:Nat) (hn:cL [n0]=true) (a0:an) {r:Int×an} (H:i9 a0=some r):LJ.Spec Tryz.prog 151 [.ptr n0 0] [(n0, .box 131 [.d (.str a0.s), .d (.int .i64 a0.at_), .d (.int .i64 a0.err)])] (.d (.int .i64 r.1)) [(n0, .box 131 [.d (.str r.2.s), .d (.int .i64 r.2.at_), .d (.int .i64 r.2.err)])]:=
 Spec.names [n0] hn rfl rfl (z8 a0 H)
theorem mC:aE Tryz.prog 151 Tryz.f151:=⟨Tryz.func151,rfl,by kernel_rfl⟩
theorem sx (a0:an) {r:Int×an} (H:cP a0=some r):LJ.Spec Tryz.prog 97 [.ptr 0 0] [(0, .box 131 [.d (.str a0.s), .d (.int .i64 a0.at_), .d (.int .i64 a0.err)])] (.d (.int .i64 r.1)) [(0, .box 131 [.d (.str r.2.s), .d (.int .i64 r.2.at_), .d (.int .i64 r.2.err)])]:=by
 refine LJ.Spec.code Tryz.func97 rfl 14 rfl rfl [0] rfl fun w0 F0 S0 B0=>?_
 unfold cP at H
 refine G (R 1 rfl (N (R 1 rfl ?_)))
 obtain ⟨x1,hx1,H⟩:=al H
 refine Cl [] (cw 0 rfl _ hx1) cx rfl p1 rfl (R 1 rfl (N (R 9 rfl (NQ (Wt ?_)))))
 cases H
 exact Ea rfl rfl rfl p1
theorem iE (n0:Nat) (hn:cL [n0]=true) (a0:an) {r:Int×an} (H:cP a0=some r):LJ.Spec Tryz.prog 97 [.ptr n0 0] [(n0, .box 131 [.d (.str a0.s), .d (.int .i64 a0.at_), .d (.int .i64 a0.err)])] (.d (.int .i64 r.1)) [(n0, .box 131 [.d (.str r.2.s), .d (.int .i64 r.2.at_), .d (.int .i64 r.2.err)])]:=
 Spec.names [n0] hn rfl rfl (sx a0 H)
theorem iG:aE Tryz.prog 97 Tryz.f97:=⟨Tryz.func97,rfl,by kernel_rfl⟩
theorem xU (a0:an) {r:ai×Int×an} (H:kd a0=some r):LJ.Spec Tryz.prog 139 [.ptr 0 0] [(0, .box 131 [.d (.str a0.s), .d (.int .i64 a0.at_), .d (.int .i64 a0.err)])] (.tup [.d (.agg [.int .i64 r.1.Kind, .int .i64 r.1.A, .int .i64 r.1.B]), .d (.int .i64 r.2.1)]) [(0, .box 131 [.d (.str r.2.2.s), .d (.int .i64 r.2.2.at_), .d (.int .i64 r.2.2.err)])]:=by
 refine LJ.Spec.code Tryz.func139 rfl 44 rfl rfl [0] rfl fun w0 F0 S0 B0=>?_
 unfold kd at H
 refine G (Wa 102 tk rfl rfl rfl (R 1 rfl (N (R 1 rfl ?_))))
 obtain ⟨x1,hx1,H⟩:=al H
 refine Cl [] (fH 0 rfl _ hx1) fI rfl p1 rfl (R 1 rfl (Wa 104 tk rfl rfl rfl (Ef 0 rfl (NS (G (R 1 rfl ?_))))))
 obtain ⟨x2,hx2,H⟩:=al H
 refine Cl [] (aZ 0 rfl _ hx2) ba rfl p1 rfl (R 2 rfl ?_)
 obtain ⟨x3,hx3,H⟩:=al H
 refine Wx 4 3 true tk [PSig.at' xT ((iEq x2 0)=true) rfl (fun hb=>xS _ (of_t hx3 hb))] rfl rfl (fun hb=>⟨⟨hb,rfl⟩,tv⟩) (RS 1 rfl ⟨by first | exact id | exact fun h=>by rw [h];rfl | simp_all,tv⟩ (NQ (Wd rfl H (fun H=>?_) (fun H=>?_))))
 ·refine G (R 1 rfl (Ef 0 rfl (R 1 rfl (NQ (Wt (QT.r ?_))))))
  cases H
  exact Ends.autoC tk rfl rfl rfl p1
 refine Wk (Qn (Ws (G (R 2 rfl (NQ (Wb (G (R 2 rfl (NQ (Wd rfl H (fun H=>?_) (fun H=>?_)))))))))))
 ·refine G (R 1 rfl ?_)
  obtain ⟨x6,hx6,H⟩:=al H
  refine Cl [] (mB 0 rfl _ hx6) mC rfl p1 rfl (R 1 rfl (Ef 0 rfl (NQ (Wg (R 1 rfl ?_)))))
  obtain ⟨x7,hx7,H⟩:=al H
  refine Cl [] (mB 0 rfl _ hx7) mC rfl p1 rfl (R 1 rfl (Ef 0 rfl (Wn (Qb (Qn ?_)))))
  refine Ws (Hp (.one 0 true (.one 1 true (.one 2 false (.one 3 false (.one 4 true .done))))) [0,102,104] [104] rfl (by kernel_rfl) rfl (by kernel_rfl) rfl rfl (fun _ h=>h) rfl rfl rfl (fun _ _ _ h=>h) fun FK NK wK K=>(Hr 2 tk rfl rfl rfl rfl tv ?_))
  obtain ⟨x8,hx8,H⟩:=al H
  refine WH.call [] rfl (aZ 0 rfl _ hx8) ba rfl rfl p1 rfl rfl rfl rfl rfl (He 0 tk ek rfl rfl rfl rfl tv rfl rfl (Hr 1 tk rfl rfl rfl rfl tv (WH.nil rfl (Qn (Wt ?_)))))
  cases H
  exact Ends.autoC tk rfl rfl rfl p1
 refine G (R 2 rfl (NQ (Wd rfl H (fun H=>?_) (fun H=>?_))))
 ·refine Wg (R 1 rfl ?_)
  obtain ⟨x10,hx10,H⟩:=al H
  refine Cl [] (mB 0 rfl _ hx10) mC rfl p1 rfl (R 1 rfl (Ef 0 rfl (Wn (Qb (Qn ?_)))))
  refine Ws (Hp (.one 0 true (.one 1 true (.one 2 false (.one 3 false (.one 4 true .done))))) [0,102,104] [104] rfl (by kernel_rfl) rfl (by kernel_rfl) rfl rfl (fun _ h=>h) rfl rfl rfl (fun _ _ _ h=>h) fun FK NK wK K=>(Hr 2 tk rfl rfl rfl rfl tv ?_))
  obtain ⟨x11,hx11,H⟩:=al H
  refine WH.call [] rfl (aZ 0 rfl _ hx11) ba rfl rfl p1 rfl rfl rfl rfl rfl (He 0 tk ek rfl rfl rfl rfl tv rfl rfl (Hr 1 tk rfl rfl rfl rfl tv (WH.nil rfl (Qn (Wt ?_)))))
  cases H
  exact Ends.autoC tk rfl rfl rfl p1
 refine G (R 2 rfl (NQ (Wd rfl H (fun H=>?_) (fun H=>?_))))
 ·refine G (R 1 rfl ?_)
  obtain ⟨x13,hx13,H⟩:=al H
  refine Cl [] (iE 0 rfl _ hx13) iG rfl p1 rfl (R 1 rfl (Ef 0 rfl (NQ (Wg (R 1 rfl ?_)))))
  obtain ⟨x14,hx14,H⟩:=al H
  refine Cl [] (mB 0 rfl _ hx14) mC rfl p1 rfl (R 1 rfl (Ef 0 rfl (Wn (Qb (Qn ?_)))))
  refine Ws (Hp (.one 0 true (.one 1 true (.one 2 false (.one 3 false (.one 4 true .done))))) [0,102,104] [104] rfl (by kernel_rfl) rfl (by kernel_rfl) rfl rfl (fun _ h=>h) rfl rfl rfl (fun _ _ _ h=>h) fun FK NK wK K=>(Hr 2 tk rfl rfl rfl rfl tv ?_))
  obtain ⟨x15,hx15,H⟩:=al H
  refine WH.call [] rfl (aZ 0 rfl _ hx15) ba rfl rfl p1 rfl rfl rfl rfl rfl (He 0 tk ek rfl rfl rfl rfl tv rfl rfl (Hr 1 tk rfl rfl rfl rfl tv (WH.nil rfl (Qn (Wt ?_)))))
  cases H
  exact Ends.autoC tk rfl rfl rfl p1
 refine Wk (Qb (Qn ?_))
 refine Ws (Hp (.one 0 true (.one 1 true (.one 2 false (.one 3 false (.one 4 true .done))))) [0,102,104] [104] rfl (by kernel_rfl) rfl (by kernel_rfl) rfl rfl (fun _ h=>h) rfl rfl rfl (fun _ _ _ h=>h) fun FK NK wK K=>(Hr 2 tk rfl rfl rfl rfl tv ?_))
 obtain ⟨x16,hx16,H⟩:=al H
 refine WH.call [] rfl (aZ 0 rfl _ hx16) ba rfl rfl p1 rfl rfl rfl rfl rfl (He 0 tk ek rfl rfl rfl rfl tv rfl rfl (Hr 1 tk rfl rfl rfl rfl tv (WH.nil rfl (Qn (Wt ?_)))))
 cases H
 exact Ends.autoC tk rfl rfl rfl p1
theorem xV (n0:Nat) (hn:cL [n0]=true) (a0:an) {r:ai×Int×an} (H:kd a0=some r):LJ.Spec Tryz.prog 139 [.ptr n0 0] [(n0, .box 131 [.d (.str a0.s), .d (.int .i64 a0.at_), .d (.int .i64 a0.err)])] (.tup [.d (.agg [.int .i64 r.1.Kind, .int .i64 r.1.A, .int .i64 r.1.B]), .d (.int .i64 r.2.1)]) [(n0, .box 131 [.d (.str r.2.2.s), .d (.int .i64 r.2.2.at_), .d (.int .i64 r.2.2.err)])]:=
 Spec.names [n0] hn rfl rfl (xU a0 H)
theorem xW:aE Tryz.prog 139 Tryz.f139:=⟨Tryz.func139,rfl,by kernel_rfl⟩
theorem rX (a0:an) {r:Int} (H:cI a0=some r):LJ.Spec Tryz.prog 67 [.ptr 0 0] [(0, .box 131 [.d (.str a0.s), .d (.int .i64 a0.at_), .d (.int .i64 a0.err)])] (.d (.int .i64 r)) [(0, .box 131 [.d (.str a0.s), .d (.int .i64 a0.at_), .d (.int .i64 a0.err)])]:=by
 refine LJ.Spec.code Tryz.func67 rfl 15 rfl rfl [0] rfl fun w0 F0 S0 B0=>?_
 unfold cI at H
 refine G (R 1 rfl (NS (G (R 2 rfl (NQ (Wc rfl (fun h=>absurd h (by decide)) (fun h=>?_)))))))
 refine Wk (Qn (Ws (Hp (.one 0 true (.one 1 true (.one 2 true (.one 3 true (.one 4 true (.one 5 true (.one 6 true (.one 7 true (.one 8 true (.one 9 true (.one 10 true .done))))))))))) [0] [0] rfl (by kernel_rfl) rfl (by kernel_rfl) rfl rfl (fun _ h=>h) rfl rfl rfl (fun _ _ _ h=>h) fun FK NK wK K=>(Hr 11 tk rfl rfl rfl rfl tv (WH.nil rfl (Qn (Wt ?_)))))))
 cases H
 exact Ea rfl rfl rfl p1
theorem da (n0:Nat) (hn:cL [n0]=true) (a0:an) {r:Int} (H:cI a0=some r):LJ.Spec Tryz.prog 67 [.ptr n0 0] [(n0, .box 131 [.d (.str a0.s), .d (.int .i64 a0.at_), .d (.int .i64 a0.err)])] (.d (.int .i64 r)) [(n0, .box 131 [.d (.str a0.s), .d (.int .i64 a0.at_), .d (.int .i64 a0.err)])]:=
 Spec.names [n0] hn rfl rfl (rX a0 H)
theorem db:aE Tryz.prog 67 Tryz.f67:=⟨Tryz.func67,rfl,by kernel_rfl⟩
theorem Aa (a0:ByteArray) {r:(List ai)×Int×Int} (H:nY a0=some r):LJ.Spec Tryz.prog 117 [.d (.str a0)] [] (.tup [.d (slT aj r.1), .d (.int .i64 r.2.1), .d (.int .i64 r.2.2)]) []:=by
 refine LJ.Spec.code Tryz.func117 rfl 54 rfl rfl [] rfl fun w0 F0 S0 B0=>?_
 unfold nY at H
 refine G (R 3 rfl (N (R 1 rfl ?_)))
 obtain ⟨x1,hx1,H⟩:=al H
 refine Cl [2140] (iP 2140 rfl _ hx1) iQ rfl tv rfl (R 1 rfl (N (R 1 rfl ?_)))
 obtain ⟨x2,hx2,H⟩:=al H
 refine Cl [] (cw 2140 rfl _ hx2) cx rfl p1 rfl (R 1 rfl (NS (G (R 1 rfl ?_))))
 obtain ⟨x3,hx3,H⟩:=al H
 refine Cl [] (aZ 2140 rfl _ hx3) ba rfl p1 rfl (R 1 rfl (N (R 2 rfl (NQ (Wd rfl H (fun H=>?_) (fun H=>?_))))))
 ·refine G (R 4 rfl (NQ (WC.nilT 2 aj rfl (Wt (QT.r ?_)))))
  cases H
  exact Ea rfl rfl rfl tv
 refine Wk (Qn (Ws (G (R 2 rfl (NQ (Wd rfl H (fun H=>?_) (fun H=>?_)))))))
 ·refine G (R 3 rfl (NQ (WC.nilT 2 aj rfl (Wt (QT.r ?_)))))
  cases H
  exact Ea rfl rfl rfl tv
 refine Wk (Qn (G (R 1 rfl (NS (G (R 2 rfl (NQ (Wb (WC.nilrow (t:=8) 1035 93 3 rfl rfl rfl (Wl (ι:= {x:Nat×(Int×(List ai)×ByteArray×Int×Int) //gj a0 x2 x.1 x.2=some r}) (fun x=>[(0, .d (.str a0)),(5, .ptr 2140 0),(8, .own 1035),(24, .d (.int .u64 x2.1)),(25, .d (.int .u64 x.1.2.1))]) (fun x=>[(1035, .row 93 3 (x.1.2.2.1.map aj)),(2140, .box 131 [.d (.str x.1.2.2.2.1), .d (.int .i64 x.1.2.2.2.2.1), .d (.int .i64 x.1.2.2.2.2.2)])]) (fun x=>x.1.1) ⟨(fuel,(0,([]:List ai),x2.2.s,x2.2.at_,x2.2.err)),H⟩ (Lm p5 p2) fun x=>?_))))))))))
 obtain ⟨⟨k8,s7⟩,H⟩:=x
 rcases k8 with _ | k8
 ·exact aQ H
 rw [gj] at H
 refine G (R 1 rfl (NS (Wd rfl H (fun H=>?_) (fun H=>?_))))
 ·refine Wk (Qn (Ws (Wb (G (R 1 rfl ?_)))))
  obtain ⟨x10,hx10,H⟩:=al H
  refine Cl [] (xV 2140 rfl _ hx10) xW rfl p1 rfl (R 3 rfl (Wa 109 tk rfl rfl rfl (Ef 0 rfl (R 1 rfl (NS (G (R 2 rfl (NQ (Wd rfl H (fun H=>?_) (fun H=>?_))))))))))
  ·refine G (R 4 rfl (NQ (WC.nilT 2 aj rfl (Wt (QT.r (QB.r (QT.r (QT.r (QB.r (QT.r ?_))))))))))
   cases H
   exact Ea rfl rfl rfl tv
  refine Wk (Qn (Wg (R 2 rfl (Ef 137 rfl (WL.freezeT 137 aj ([x10.1]:List ai) rfl rfl rfl rfl ?_)))))
  obtain ⟨g12,H⟩:=av H
  refine WL.appT aj s7.2.1 ([x10.1]:List ai) tk ek rfl rfl (fun _=>rfl) (fun _=>rfl) rfl rfl rfl rfl (cg g12) rfl rfl rfl rfl rfl ?_
  refine R 1 rfl (Wn (Qb (Qn ?_)))
  exact Wg (R 2 rfl (NQ (⟨⟨(k8,(IntKind.u64.wrap (s7.1+1),s7.2.1++([x10.1]:List ai),x10.2.2.s,x10.2.2.at_,x10.2.2.err)),H⟩,Z,Lm p5 p2⟩)))
 refine WC.exit (Qx (Qx (Qh (Qn ?_))))
 refine Ws (G (R 1 rfl (WL.freezeT 1035 aj s7.2.1 rfl rfl rfl rfl ?_)))
 obtain ⟨x13,hx13,H⟩:=al H
 refine Cl [] (lV _ hx13) lW rfl tv rfl (R 5 rfl (N (R 2 rfl (NQ (Wd rfl H (fun H=>?_) (fun H=>?_))))))
 ·refine G (R 4 rfl (NQ (WC.nilT 2 aj rfl (Wt (QT.r ?_)))))
  cases H
  exact Ea rfl rfl rfl tv
 refine Wk (Qn (G (R 4 rfl ?_)))
 obtain ⟨x15,hx15,H⟩:=al H
 refine Cl [] (da 2140 rfl _ hx15) db rfl p1 rfl (R 4 rfl (NQ (Wt ?_)))
 cases H
 exact Ea rfl rfl rfl tv
theorem Ab:aE Tryz.prog 117 Tryz.f117:=⟨Tryz.func117,rfl,by kernel_rfl⟩
theorem jV (a0:aw) (a1:Int) (a2:Int) {z:Int ⊕ aw} (H:bI a0 a1 a2=some z):LJ.mX Tryz.prog 118 [.ptr 0 0, .d (.int .i64 a1), .d (.int .i64 a2)] [(0, .box 173 [.d (.str a0.s)])] (fun e=> .iface 169 (.agg #[.int .i64 e])) (fun (r:aw)=>(.tup [],[(0, .box 173 [.d (.str r.s)])])) z:=by
 refine LJ.mX.code Tryz.func118 rfl 20 rfl rfl [0] rfl fun w0 F0 S0 B0=>?_
 unfold bI at H
 refine Ws (G (R 2 rfl (NQ (Wd rfl H (fun H=>?_) (fun H=>?_)))))
 ·refine Wg (R 2 rfl ?_)
  cases H
  exact WL.panicI rfl rfl rfl rfl rfl rfl rfl (by kernel_rfl) ⟨_,rfl,rfl⟩
 refine Wk (Qn (Wg ?_))
 obtain ⟨g2,H⟩:=av H
 refine RS 9 rfl ⟨(vf g2),tv⟩ (Ef 0 rfl (Wn ?_))
 cases H
 refine ⟨_,rfl,?_⟩
 exact Ends.auton rfl rfl rfl p1
theorem oL (a0:aw) (a1:Int) (a2:Int) {r:aw} (H:bI a0 a1 a2=some (.inr r)):LJ.Spec Tryz.prog 118 [.ptr 0 0, .d (.int .i64 a1), .d (.int .i64 a2)] [(0, .box 173 [.d (.str a0.s)])] (.tup []) [(0, .box 173 [.d (.str r.s)])]:=jV a0 a1 a2 H
theorem dg (a0:aw) (a1:Int) (a2:Int) {e:Int} (H:bI a0 a1 a2=some (.inl e)):LJ.mJ Tryz.prog 118 [.ptr 0 0, .d (.int .i64 a1), .d (.int .i64 a2)] [(0, .box 173 [.d (.str a0.s)])] (.iface 169 (.agg #[.int .i64 e])):=jV a0 a1 a2 H
theorem dh (n0:Nat) (hn:cL [n0]=true) (a0:aw) (a1:Int) (a2:Int) {r:aw} (H:bI a0 a1 a2=some (.inr r)):LJ.Spec Tryz.prog 118 [.ptr n0 0, .d (.int .i64 a1), .d (.int .i64 a2)] [(n0, .box 173 [.d (.str a0.s)])] (.tup []) [(n0, .box 173 [.d (.str r.s)])]:=
 Spec.names [n0] hn rfl rfl (oL a0 a1 a2 H)
theorem bC:aE Tryz.prog 118 Tryz.f118:=⟨Tryz.func118,rfl,by kernel_rfl⟩
theorem kA (a0:aw) {z:Int ⊕ (Int×aw)} (H:cv a0=some z):LJ.mX Tryz.prog 140 [.ptr 0 0] [(0, .box 173 [.d (.str a0.s)])] (fun e=> .iface 169 (.agg #[.int .i64 e])) (fun (r:Int×aw)=>(.d (.int .i64 r.1),[(0, .box 173 [.d (.str r.2.s)])])) z:=by
 refine LJ.mX.code Tryz.func140 rfl 27 rfl rfl [0] rfl fun w0 F0 S0 B0=>?_
 unfold cv at H
 refine G (R 1 rfl (N (R 4 rfl ?_)))
 obtain ⟨x1,hx1,H⟩:=al H
 refine Cl [2090] (iP 2090 rfl _ hx1) iQ rfl tv rfl (R 1 rfl (N (R 1 rfl ?_)))
 obtain ⟨x2,hx2,H⟩:=al H
 refine Cl [] (cw 2090 rfl _ hx2) cx rfl p1 rfl (R 1 rfl (NQ (Ws ?_)))
 obtain ⟨x3_7_1,hx3_7_1,H⟩:=al H
 obtain ⟨x3_10_1,hx3_10_1,H⟩:=al H
 rcases fX H with ⟨e,hx3_11_1,rfl⟩ | ⟨x3_11_1r,hx3_11_1,H⟩
 ·refine Hp (.one 0 true (.one 1 true (.one 2 true (.one 3 true (.one 6 true (.one 9 true (.fork (.one 4 false (.one 5 true (.one 7 false (.one 8 true (.one 10 false (.one 11 false .done)))))) (.one 7 false (.fork (.one 4 false (.one 5 true (.one 8 true (.one 10 false (.one 11 false .done))))) (.one 10 false (.one 4 false (.one 5 true (.one 8 true (.one 11 false .done)))))))))))))) [0,2090] [] rfl (by kernel_rfl) rfl (by kernel_rfl) rfl rfl (fun _ h=>h) rfl rfl rfl (fun _ _ _ h=>h) fun FK NK wK K=>(Hr 6 tk rfl rfl rfl rfl tv (WH.fork ?_ ?_))
  ·exact WH.val tk rfl rfl rfl rfl rfl tv rfl rfl (Hr 1 tk rfl rfl rfl rfl tv (WH.call [] rfl (da 2090 rfl _ hx3_7_1) db rfl rfl p1 rfl rfl rfl rfl rfl (Hr 1 tk rfl rfl rfl rfl tv (WH.call [] rfl (aZ 2090 rfl _ hx3_10_1) ba rfl rfl p1 rfl rfl rfl rfl rfl (WH.callP rfl (dg _ _ _ hx3_11_1) bC rfl rfl p1 rfl rfl rfl ⟨_,rfl,rfl⟩)))))
  ·refine WH.call [] rfl (da 2090 rfl _ hx3_7_1) db rfl rfl p1 rfl rfl rfl rfl rfl (WH.fork ?_ ?_)
   ·exact WH.val tk rfl rfl rfl rfl rfl tv rfl rfl (Hr 2 tk rfl rfl rfl rfl tv (WH.call [] rfl (aZ 2090 rfl _ hx3_10_1) ba rfl rfl p1 rfl rfl rfl rfl rfl (WH.callP rfl (dg _ _ _ hx3_11_1) bC rfl rfl p1 rfl rfl rfl ⟨_,rfl,rfl⟩)))
   ·exact WH.call [] rfl (aZ 2090 rfl _ hx3_10_1) ba rfl rfl p1 rfl rfl rfl rfl rfl (WH.val tk rfl rfl rfl rfl rfl tv rfl rfl (Hr 2 tk rfl rfl rfl rfl tv (WH.callP rfl (dg _ _ _ hx3_11_1) bC rfl rfl p1 rfl rfl rfl ⟨_,rfl,rfl⟩)))
 refine WC.heldF [(4, .d (.int .u64 x2.1))] [(0, .box 173 [.d (.str x3_11_1r.s)])] (sT 0 (sT 1 (sT 2 (sT 3 (sT 6 (sT 9 (fk (sf 4 (sT 5 (sf 7 (sT 8 (sf 10 (sf 11 sd)))))) (sf 7 (fk (sf 4 (sT 5 (sT 8 (sf 10 (sf 11 sd))))) (sf 10 (sf 4 (sT 5 (sT 8 (sf 11 sd)))))))))))))) [0,2090] [] rfl (by kernel_rfl) rfl (by kernel_rfl) rfl rfl (fun _ h=>h) rfl rfl rfl (fun FK NK wK K=>?_) ?_
 ·refine Hr 6 tk rfl rfl rfl rfl tv (WH.fork ?_ ?_)
  ·exact WH.val tk rfl rfl rfl rfl rfl tv rfl rfl (Hr 1 tk rfl rfl rfl rfl tv (WH.call [] rfl (da 2090 rfl _ hx3_7_1) db rfl rfl p1 rfl rfl rfl rfl rfl (Hr 1 tk rfl rfl rfl rfl tv (WH.call [] rfl (aZ 2090 rfl _ hx3_10_1) ba rfl rfl p1 rfl rfl rfl rfl rfl (WH.call [] rfl (dh 0 rfl _ _ _ hx3_11_1) bC rfl rfl p1 rfl rfl rfl rfl rfl (Hn rfl (Lw q1 p1)))))))
  ·refine WH.call [] rfl (da 2090 rfl _ hx3_7_1) db rfl rfl p1 rfl rfl rfl rfl rfl (WH.fork ?_ ?_)
   ·exact WH.val tk rfl rfl rfl rfl rfl tv rfl rfl (Hr 2 tk rfl rfl rfl rfl tv (WH.call [] rfl (aZ 2090 rfl _ hx3_10_1) ba rfl rfl p1 rfl rfl rfl rfl rfl (WH.call [] rfl (dh 0 rfl _ _ _ hx3_11_1) bC rfl rfl p1 rfl rfl rfl rfl rfl (Hn rfl (Lw q1 p1)))))
   ·exact WH.call [] rfl (aZ 2090 rfl _ hx3_10_1) ba rfl rfl p1 rfl rfl rfl rfl rfl (WH.val tk rfl rfl rfl rfl rfl tv rfl rfl (Hr 2 tk rfl rfl rfl rfl tv (WH.call [] rfl (dh 0 rfl _ _ _ hx3_11_1) bC rfl rfl p1 rfl rfl rfl rfl rfl (Hn rfl (Lw q1 p1)))))
 ·refine Qn (G (R 1 rfl (WL.yv (LJ.Y.min rfl rfl rfl) rfl rfl rfl (R 2 rfl (NQ (Wt ?_))))))
  cases H
  refine ⟨_,rfl,?_⟩
  exact Ea rfl rfl rfl p1
theorem pf (a0:aw) {r:Int×aw} (H:cv a0=some (.inr r)):LJ.Spec Tryz.prog 140 [.ptr 0 0] [(0, .box 173 [.d (.str a0.s)])] (.d (.int .i64 r.1)) [(0, .box 173 [.d (.str r.2.s)])]:=kA a0 H
theorem ir (a0:aw) {e:Int} (H:cv a0=some (.inl e)):LJ.mJ Tryz.prog 140 [.ptr 0 0] [(0, .box 173 [.d (.str a0.s)])] (.iface 169 (.agg #[.int .i64 e])):=kA a0 H
theorem iu (n0:Nat) (hn:cL [n0]=true) (a0:aw) {r:Int×aw} (H:cv a0=some (.inr r)):LJ.Spec Tryz.prog 140 [.ptr n0 0] [(n0, .box 173 [.d (.str a0.s)])] (.d (.int .i64 r.1)) [(n0, .box 173 [.d (.str r.2.s)])]:=
 Spec.names [n0] hn rfl rfl (pf a0 H)
theorem dC:aE Tryz.prog 140 Tryz.f140:=⟨Tryz.func140,rfl,by kernel_rfl⟩
theorem jW (a0:aw) (a1:Int) {z:Int ⊕ (Int×aw)} (H:cb a0 a1=some z):LJ.mX Tryz.prog 119 [.ptr 0 0, .d (.int .i64 a1)] [(0, .box 173 [.d (.str a0.s)])] (fun e=> .iface 169 (.agg #[.int .i64 e])) (fun (r:Int×aw)=>(.d (.int .i64 r.1),[(0, .box 173 [.d (.str r.2.s)])])) z:=by
 refine LJ.mX.code Tryz.func119 rfl 14 rfl rfl [0] rfl fun w0 F0 S0 B0=>?_
 unfold cb at H
 refine G (R 1 rfl (N (R 1 rfl ?_)))
 rcases fX H with ⟨e,hx1,rfl⟩ | ⟨x1r,hx1,H⟩
 ·exact WL.callP (ir _ hx1) dC rfl rfl p1 rfl rfl ⟨_,rfl,rfl⟩
 refine Cl [] (iu 0 rfl _ hx1) dC rfl p1 rfl (R 1 rfl (NS (G (R 3 rfl (NQ (Wd rfl H (fun H=>?_) (fun H=>?_)))))))
 ·refine Wg (R 1 rfl ?_)
  cases H
  exact WL.panicI rfl rfl rfl rfl rfl rfl rfl (by kernel_rfl) ⟨_,rfl,rfl⟩
 refine Wk (Qn (G (R 2 rfl (NQ (Wt ?_)))))
 cases H
 refine ⟨_,rfl,?_⟩
 exact Ea rfl rfl rfl p1
theorem oM (a0:aw) (a1:Int) {r:Int×aw} (H:cb a0 a1=some (.inr r)):LJ.Spec Tryz.prog 119 [.ptr 0 0, .d (.int .i64 a1)] [(0, .box 173 [.d (.str a0.s)])] (.d (.int .i64 r.1)) [(0, .box 173 [.d (.str r.2.s)])]:=jW a0 a1 H
theorem gV (a0:aw) (a1:Int) {e:Int} (H:cb a0 a1=some (.inl e)):LJ.mJ Tryz.prog 119 [.ptr 0 0, .d (.int .i64 a1)] [(0, .box 173 [.d (.str a0.s)])] (.iface 169 (.agg #[.int .i64 e])):=jW a0 a1 H
theorem gX (n0:Nat) (hn:cL [n0]=true) (a0:aw) (a1:Int) {r:Int×aw} (H:cb a0 a1=some (.inr r)):LJ.Spec Tryz.prog 119 [.ptr n0 0, .d (.int .i64 a1)] [(n0, .box 173 [.d (.str a0.s)])] (.d (.int .i64 r.1)) [(n0, .box 173 [.d (.str r.2.s)])]:=
 Spec.names [n0] hn rfl rfl (oM a0 a1 H)
theorem di:aE Tryz.prog 119 Tryz.f119:=⟨Tryz.func119,rfl,by kernel_rfl⟩
theorem xX (a0:an) (a1:Int) {r:Int×Int×an} (H:jt a0 a1=some r):LJ.Spec Tryz.prog 141 [.ptr 0 0, .d (.int .u64 a1)] [(0, .box 131 [.d (.str a0.s), .d (.int .i64 a0.at_), .d (.int .i64 a0.err)])] (.tup [.d (.int .i64 r.1), .d (.int .i64 r.2.1)]) [(0, .box 131 [.d (.str r.2.2.s), .d (.int .i64 r.2.2.at_), .d (.int .i64 r.2.2.err)])]:=by
 refine LJ.Spec.code Tryz.func141 rfl 16 rfl rfl [0] rfl fun w0 F0 S0 B0=>?_
 unfold jt at H
 refine G (R 2 rfl (N (R 1 rfl ?_)))
 obtain ⟨x1,hx1,H⟩:=al H
 refine Cl [] (cw 0 rfl _ hx1) cx rfl p1 rfl (R 1 rfl (NS (G (R 3 rfl (NQ (Wd rfl H (fun H=>?_) (fun H=>?_)))))))
 ·refine G (R 2 rfl (NQ (Wt (QT.r ?_))))
  cases H
  exact Ea rfl rfl rfl p1
 refine Wk (Qn (G (R 3 rfl ?_)))
 obtain ⟨x3,hx3,H⟩:=al H
 refine Cl [] (aZ 0 rfl _ hx3) ba rfl p1 rfl (R 2 rfl (NQ (Wt ?_)))
 cases H
 exact Ea rfl rfl rfl p1
theorem rY (n0:Nat) (hn:cL [n0]=true) (a0:an) (a1:Int) {r:Int×Int×an} (H:jt a0 a1=some r):LJ.Spec Tryz.prog 141 [.ptr n0 0, .d (.int .u64 a1)] [(n0, .box 131 [.d (.str a0.s), .d (.int .i64 a0.at_), .d (.int .i64 a0.err)])] (.tup [.d (.int .i64 r.1), .d (.int .i64 r.2.1)]) [(n0, .box 131 [.d (.str r.2.2.s), .d (.int .i64 r.2.2.at_), .d (.int .i64 r.2.2.err)])]:=
 Spec.names [n0] hn rfl rfl (xX a0 a1 H)
theorem rZ:aE Tryz.prog 141 Tryz.f141:=⟨Tryz.func141,rfl,by kernel_rfl⟩
theorem xY (a0:an) {r:ah×Int×an} (H:ke a0=some r):LJ.Spec Tryz.prog 142 [.ptr 0 0] [(0, .box 131 [.d (.str a0.s), .d (.int .i64 a0.at_), .d (.int .i64 a0.err)])] (.tup [.d (.agg [.int .i64 r.1.Kind, .int .i64 r.1.Obj, .int .i64 r.1.N]), .d (.int .i64 r.2.1)]) [(0, .box 131 [.d (.str r.2.2.s), .d (.int .i64 r.2.2.at_), .d (.int .i64 r.2.2.err)])]:=by
 refine LJ.Spec.code Tryz.func142 rfl 40 rfl rfl [0] rfl fun w0 F0 S0 B0=>?_
 unfold ke at H
 refine G (Wa 102 tk rfl rfl rfl (R 1 rfl (N (R 1 rfl ?_))))
 obtain ⟨x1,hx1,H⟩:=al H
 refine Cl [] (fH 0 rfl _ hx1) fI rfl p1 rfl (R 1 rfl (Wa 104 tk rfl rfl rfl (Ef 0 rfl (NS (G (R 1 rfl ?_))))))
 obtain ⟨x2,hx2,H⟩:=al H
 refine Cl [] (aZ 0 rfl _ hx2) ba rfl p1 rfl (R 1 rfl (N (R 2 rfl (NQ (Wd rfl H (fun H=>?_) (fun H=>?_))))))
 ·refine G (R 2 rfl (Ef 0 rfl (R 1 rfl (NQ (Wt (QT.r ?_))))))
  cases H
  exact Ends.autoC tk rfl rfl rfl p1
 refine Wk (Qn (Ws (G (R 4 rfl (Wx 3 3 false tk sg0 rfl rfl (fun _=>tv) (RS 1 rfl ⟨by first | exact id | exact fun h=>by rw [h];rfl | simp_all,tv⟩ (NQ (Wd rfl H (fun H=>?_) (fun H=>?_)))))))))
 ·refine G (R 1 rfl (Ef 0 rfl (R 1 rfl (NQ (Wt (QT.r ?_))))))
  cases H
  exact Ends.autoC tk rfl rfl rfl p1
 refine Wk (Qn (G (R 1 rfl ?_)))
 obtain ⟨x5,hx5,H⟩:=al H
 refine Cl [] (cw 0 rfl _ hx5) cx rfl p1 rfl (WL.yv (LJ.Y.min rfl rfl rfl) rfl rfl rfl (R 2 rfl (Ef 0 rfl (NS (G (R 2 rfl ?_))))))
 obtain ⟨x6,hx6,H⟩:=al H
 refine Cl [] (bx _ hx6) bA rfl tv rfl (NQ (Wd rfl H (fun H=>?_) (fun H=>?_)))
 ·refine Wg (R 1 rfl ?_)
  obtain ⟨x8,hx8,H⟩:=al H
  refine Cl [] (cw 0 rfl _ hx8) cx rfl p1 rfl (WL.yv (LJ.Y.min rfl rfl rfl) rfl rfl rfl (R 2 rfl (Ef 0 rfl (NS (Hp (.one 0 true (.one 1 true (.one 2 false (.one 3 false (.one 4 true .done))))) [0,102,104] [104] rfl (by kernel_rfl) rfl (by kernel_rfl) rfl rfl (fun _ h=>h) rfl rfl rfl (fun _ _ _ h=>h) fun FK NK wK K=>(Hr 2 tk rfl rfl rfl rfl tv ?_))))))
  obtain ⟨x9,hx9,H⟩:=al H
  refine WH.call [] rfl (aZ 0 rfl _ hx9) ba rfl rfl p1 rfl rfl rfl rfl rfl (He 0 tk ek rfl rfl rfl rfl tv rfl rfl (Hr 1 tk rfl rfl rfl rfl tv (WH.nil rfl (Qn (Wt ?_)))))
  cases H
  exact Ends.autoC tk rfl rfl rfl p1
 refine Wk (Qn (Ws (Hp (.one 0 true (.one 1 true (.one 2 false (.one 3 false (.one 4 true .done))))) [0,102,104] [104] rfl (by kernel_rfl) rfl (by kernel_rfl) rfl rfl (fun _ h=>h) rfl rfl rfl (fun _ _ _ h=>h) fun FK NK wK K=>(Hr 2 tk rfl rfl rfl rfl tv ?_))))
 obtain ⟨x10,hx10,H⟩:=al H
 refine WH.call [] rfl (aZ 0 rfl _ hx10) ba rfl rfl p1 rfl rfl rfl rfl rfl (He 0 tk ek rfl rfl rfl rfl tv rfl rfl (Hr 1 tk rfl rfl rfl rfl tv (WH.nil rfl (Qn (Wt ?_)))))
 cases H
 exact Ends.autoC tk rfl rfl rfl p1
theorem xZ (n0:Nat) (hn:cL [n0]=true) (a0:an) {r:ah×Int×an} (H:ke a0=some r):LJ.Spec Tryz.prog 142 [.ptr n0 0] [(n0, .box 131 [.d (.str a0.s), .d (.int .i64 a0.at_), .d (.int .i64 a0.err)])] (.tup [.d (.agg [.int .i64 r.1.Kind, .int .i64 r.1.Obj, .int .i64 r.1.N]), .d (.int .i64 r.2.1)]) [(n0, .box 131 [.d (.str r.2.2.s), .d (.int .i64 r.2.2.at_), .d (.int .i64 r.2.2.err)])]:=
 Spec.names [n0] hn rfl rfl (xY a0 H)
theorem ya:aE Tryz.prog 142 Tryz.f142:=⟨Tryz.func142,rfl,by kernel_rfl⟩
theorem Ac (a0:List ai) (a1:ByteArray) {r:(List (List ah))×Int×Int} (H:nZ a0 a1=some r):LJ.Spec Tryz.prog 120 [.d (slT aj a0), .d (.str a1)] [] (.tup [.d (slT aC r.1), .d (.int .i64 r.2.1), .d (.int .i64 r.2.2)]) []:=by
 refine LJ.Spec.code Tryz.func120 rfl 71 rfl rfl [] rfl fun w0 F0 S0 B0=>?_
 unfold nZ at H
 refine G (R 3 rfl (N (R 1 rfl ?_)))
 obtain ⟨x1,hx1,H⟩:=al H
 refine Cl [2180] (iP 2180 rfl _ hx1) iQ rfl tv rfl (R 1 rfl (N (R 1 rfl ?_)))
 obtain ⟨x2,hx2,H⟩:=al H
 refine Cl [] (rY 2180 rfl _ _ hx2) rZ rfl p1 rfl (R 5 rfl (NS (G (R 2 rfl (NQ (Wd rfl H (fun H=>?_) (fun H=>?_)))))))
 ·refine G (R 4 rfl (NQ (WC.nilT 4 aC rfl (Wt (QT.r ?_)))))
  cases H
  exact Ea rfl rfl rfl tv
 refine Wk (Qn (G (R 1 rfl (NS (G (R 2 rfl (NQ (Wb (WC.nilrow (t:=10) 1054 142 1 rfl rfl rfl (Wl (ι:= {x:Nat×(Int×(List (List ah))×ByteArray×Int×Int) //fG a0 a1 x2 x.1 x.2=some r}) (fun x=>[(0, .d (slT aj a0)),(1, .d (.str a1)),(7, .ptr 2180 0),(10, .own 1054),(27, .d (.int .i64 x2.1)),(28, .d (.int .i64 x.1.2.1))]) (fun x=>[(1054, .row 142 1 (x.1.2.2.1.map aC)),(2180, .box 131 [.d (.str x.1.2.2.2.1), .d (.int .i64 x.1.2.2.2.2.1), .d (.int .i64 x.1.2.2.2.2.2)])]) (fun x=>x.1.1) ⟨(fuel,(0,([]:List (List ah)),x2.2.2.s,x2.2.2.at_,x2.2.2.err)),H⟩ (Lm p6 p2) fun x=>?_))))))))))
 obtain ⟨⟨k6,s5⟩,H⟩:=x
 rcases k6 with _ | k6
 ·exact aQ H
 rw [fG] at H
 refine G (R 1 rfl (NS (Wd rfl H (fun H=>?_) (fun H=>?_))))
 ·refine Wk (Qn ?_)
  obtain ⟨K8,hK8,H⟩:=cR H
  refine WC.cut (fun E m=>∃ s9:(List (List ah))×ByteArray×Int×Int,K8 s9=some r∧gY E m [(0, .d (slT aj a0)),(1, .d (.str a1)),(7, .ptr 2180 0),(10, .own 1054),(27, .d (.int .i64 x2.1)),(28, .d (.int .i64 s5.1))] [(1054, .row 142 1 (s9.1.map aC)),(2180, .box 131 [.d (.str s9.2.1), .d (.int .i64 s9.2.2.1), .d (.int .i64 s9.2.2.2)])]) ?_ ?_
  ·refine Wb (G (R 1 rfl ?_))
   obtain ⟨x10,hx10,H⟩:=al H
   refine Cl [] (rY 2180 rfl _ _ hx10) rZ rfl p1 rfl (R 5 rfl (NS (G (R 2 rfl (NQ (Wd rfl H (fun H=>?_) (fun H=>?_)))))))
   ·refine G (R 4 rfl (NQ (WC.nilT 4 aC rfl (Wt (QT.r (QB.r (QT.r (QT.r (QB.r (QT.r ?_))))))))))
    cases H
    exact Ea rfl rfl rfl tv
   refine Wk (Qn (G (R 1 rfl (NS (G (R 2 rfl (NQ (Wb (WC.nilrow (t:=13) 1049 159 3 rfl rfl rfl (Wl (ι:= {x:Nat×(Int×(List ah)×ByteArray×Int×Int) //fF s5 K8 x10 x.1 x.2=some r}) (fun x=>[(0, .d (slT aj a0)),(1, .d (.str a1)),(7, .ptr 2180 0),(10, .own 1054),(13, .own 1049),(27, .d (.int .i64 x2.1)),(28, .d (.int .i64 s5.1)),(38, .d (.int .i64 x10.1)),(39, .d (.int .i64 x.1.2.1))]) (fun x=>[(1049, .row 159 3 (x.1.2.2.1.map bw)),(1054, .row 142 1 (s5.2.1.map aC)),(2180, .box 131 [.d (.str x.1.2.2.2.1), .d (.int .i64 x.1.2.2.2.2.1), .d (.int .i64 x.1.2.2.2.2.2)])]) (fun x=>x.1.1) ⟨(fuel,(0,([]:List ah),x10.2.2.s,x10.2.2.at_,x10.2.2.err)),H⟩ (Lm p9 p3) fun x=>?_))))))))))
   obtain ⟨⟨k14,s13⟩,H⟩:=x
   rcases k14 with _ | k14
   ·exact aQ H
   rw [fF] at H
   refine G (R 1 rfl (NS (Wd rfl H (fun H=>?_) (fun H=>?_))))
   ·refine Wk (Qn (Ws (Wb (G (R 1 rfl ?_)))))
    obtain ⟨x16,hx16,H⟩:=al H
    refine Cl [] (xZ 2180 rfl _ hx16) ya rfl p1 rfl (R 3 rfl (Wa 114 tk rfl rfl rfl (Ef 0 rfl (R 1 rfl (NS (G (R 2 rfl (NQ (Wd rfl H (fun H=>?_) (fun H=>?_))))))))))
    ·refine G (R 4 rfl (NQ (WC.nilT 4 aC rfl (Wt (QT.r (QB.r (QT.r (QT.r (QB.r (QT.r (QB.r (QT.r (QT.r (QB.r (QT.r ?_)))))))))))))))
     cases H
     exact Ea rfl rfl rfl tv
    refine Wk (Qn (Wg (R 2 rfl (Ef 151 rfl (WL.freezeT 151 bw ([x16.1]:List ah) rfl rfl rfl rfl ?_)))))
    obtain ⟨g18,H⟩:=av H
    refine WL.appT bw s13.2.1 ([x16.1]:List ah) tk ek rfl rfl (fun _=>rfl) (fun _=>rfl) rfl rfl rfl rfl (cg g18) rfl rfl rfl rfl rfl ?_
    refine R 1 rfl (Wn (Qb (Qn ?_)))
    exact Wg (R 2 rfl (NQ (⟨⟨(k14,(IntKind.i64.wrap (s13.1+1),s13.2.1++([x16.1]:List ah),x16.2.2.s,x16.2.2.at_,x16.2.2.err)),H⟩,Z,Lm p9 p3⟩)))
   refine WC.exit (Qx (Qx (Qh (Qn ?_))))
   refine Wg (R 2 rfl (WL.freezeT 1049 bw s13.2.1 rfl rfl rfl rfl (Ef 156 rfl (WL.freezeT 156 aC ([s13.2.1]:List (List ah)) rfl rfl rfl rfl ?_))))
   obtain ⟨g19,H⟩:=av H
   refine WL.appT aC s5.2.1 ([s13.2.1]:List (List ah)) tk ek rfl rfl (fun _=>rfl) (fun _=>rfl) rfl rfl rfl rfl (cg g19) rfl rfl rfl rfl rfl ?_
   refine R 1 rfl (Wn (Qb (Qn ?_)))
   exact ⟨(s5.2.1++([s13.2.1]:List (List ah)),s13.2.2.1,s13.2.2.2.1,s13.2.2.2.2),H,Lw q6 p2⟩
  ·rintro E m ⟨s9,H,hl⟩
   refine WC.lessW hl ?_
   replace H:=(hK8 _).symm.trans H
   try dsimp only at H
   exact Wg (R 2 rfl (NQ (⟨⟨(k6,(IntKind.i64.wrap (s5.1+1),s9.1,s9.2.1,s9.2.2.1,s9.2.2.2)),H⟩,Z,Lm p6 p2⟩)))
 refine WC.exit (Qx (Qx (Qh (Qn ?_))))
 refine Ws (G (R 2 rfl (WL.freezeT 1054 aC s5.2.1 rfl rfl rfl rfl ?_)))
 obtain ⟨x20,hx20,H⟩:=al H
 refine Cl [] (lX _ _ hx20) lY rfl tv rfl (R 1 rfl (N (R 2 rfl (NQ (Wd rfl H (fun H=>?_) (fun H=>?_))))))
 ·refine G (R 4 rfl (NQ (WC.nilT 4 aC rfl (Wt (QT.r ?_)))))
  cases H
  exact Ea rfl rfl rfl tv
 refine Wk (Qn (G (R 4 rfl ?_)))
 obtain ⟨x22,hx22,H⟩:=al H
 refine Cl [] (da 2180 rfl _ hx22) db rfl p1 rfl (R 4 rfl (NQ (Wt ?_)))
 cases H
 exact Ea rfl rfl rfl tv
theorem Ad:aE Tryz.prog 120 Tryz.f120:=⟨Tryz.func120,rfl,by kernel_rfl⟩
theorem Cg (a0:ByteArray) {r:ar×Int×Int} (H:qV a0=some r):LJ.Spec Tryz.prog 143 [.d (.str a0)] [] (.tup [.d (.agg [.int .i64 r.1.Op, .int .i64 r.1.A, .int .i64 r.1.B]), .d (.int .i64 r.2.1), .d (.int .i64 r.2.2)]) []:=by
 refine LJ.Spec.code Tryz.func143 rfl 76 rfl rfl [] rfl fun w0 F0 S0 B0=>?_
 unfold qV at H
 refine G (Wa 102 tk rfl rfl rfl (R 2 rfl (N (R 1 rfl ?_))))
 obtain ⟨x1,hx1,H⟩:=al H
 refine Cl [2140] (iP 2140 rfl _ hx1) iQ rfl tv rfl (R 1 rfl (N (R 1 rfl ?_)))
 obtain ⟨x2,hx2,H⟩:=al H
 refine Cl [] (fH 2140 rfl _ hx2) fI rfl p1 rfl (R 1 rfl (Wa 106 tk rfl rfl rfl (Ef 0 rfl (NS (G (R 1 rfl ?_))))))
 obtain ⟨x3,hx3,H⟩:=al H
 refine Cl [] (aZ 2140 rfl _ hx3) ba rfl p1 rfl (R 1 rfl (N (R 2 rfl (NQ (Wd rfl H (fun H=>?_) (fun H=>?_))))))
 ·refine G (R 2 rfl (Ef 0 rfl (R 2 rfl (NQ (Wt (QT.r ?_))))))
  cases H
  exact Ends.autoC tk rfl rfl rfl tv
 refine Wk (Qn (Ws (G (R 2 rfl ?_))))
 obtain ⟨x5,hx5,H⟩:=al H
 refine Cl [] (v8 _ hx5) wa rfl tv rfl (R 1 rfl (NQ (Wd rfl H (fun H=>?_) (fun H=>?_))))
 ·refine G (R 1 rfl (Ef 0 rfl (R 2 rfl (NQ (Wt (QT.r ?_))))))
  cases H
  exact Ends.autoC tk rfl rfl rfl tv
 refine Wk (Qn (G (R 2 rfl ?_)))
 obtain ⟨x7,hx7,H⟩:=al H
 refine Cl [] (gQ _ hx7) gR rfl tv rfl (R 1 rfl (N (WL.allocZ 109 [.int .i64 0, .int .i64 0] rfl (by kernel_rfl) rfl rfl rfl rfl (NS (G (R 3 rfl (NQ (Wb (Wl (ι:= {x:Nat×(Int×(List Int)×ByteArray×Int×Int) //fh a0 x2 x7 x.1 x.2=some r}) (fun x=>[(0, .d (.str a0)),(2, .ptr 102 0),(5, .ptr 2140 0),(6, .ptr 106 0),(8, .d (.str x7)),(9, .ptr 109 0),(33, .d (.int .i64 (x7.size:Int))),(34, .d (.int .i64 x.1.2.1))]) (fun x=>[(102, .box 100 [.d (.int .i64 0), .d (.int .i64 0), .d (.int .i64 0)]),(106, .box 100 [.d (.int .i64 x2.1), .d (.int .i64 0), .d (.int .i64 0)]),(109, .box 161 [.d (.int .i64 (x.1.2.2.1.getD 0 default)), .d (.int .i64 (x.1.2.2.1.getD 1 default))]),(2140, .box 131 [.d (.str x.1.2.2.2.1), .d (.int .i64 x.1.2.2.2.2.1), .d (.int .i64 x.1.2.2.2.2.2)])]) (fun x=>x.1.1) ⟨(fuel,(0,([0,0]:List Int),x2.2.s,x2.2.at_,x2.2.err)),H⟩ (Lm p8 p4) fun x=>?_)))))))))
 obtain ⟨⟨k9,s8⟩,H⟩:=x
 rcases k9 with _ | k9
 ·exact aQ H
 rw [fh] at H
 refine G (R 1 rfl (NS (Wd rfl H (fun H=>?_) (fun H=>?_))))
 ·refine Wk (Qn (Ws (Wb (G (R 2 rfl (NS (G ?_)))))))
  obtain ⟨g11,H⟩:=av H
  refine RS 4 rfl ⟨(ao g11),tv⟩ (NQ (Wd rfl H (fun H=>?_) (fun H=>?_)))
  ·refine Wg (R 2 rfl ?_)
   obtain ⟨x13,hx13,H⟩:=al H
   refine Cl [] (iE 2140 rfl _ hx13) iG rfl p1 rfl ?_
   obtain ⟨g14,H⟩:=av H
   refine WL.yv (LJ.Y.idxPtrA 2 s8.1 (by kernel_rfl) rfl rfl rfl (ao g14)) rfl rfl rfl (WL.wo (WO.storePtrA 2 0 (fun x:Int=>DV.int .i64 x) s8.2.1 x13.1 s8.1 (cs':=[.d (.int .i64 ((aset 2 s8.2.1 s8.1.toNat x13.1).getD 0 default)), .d (.int .i64 ((aset 2 s8.2.1 s8.1.toNat x13.1).getD 1 default))]) rfl rfl rfl rfl rfl (by kernel_rfl) rfl rfl (ao g14) rfl rfl rfl) rfl (N (R 1 rfl ?_)))
   obtain ⟨x15,hx15,H⟩:=al H
   refine Cl [] (aZ 2140 rfl _ hx15) ba rfl p1 rfl (R 1 rfl (N (R 2 rfl (NQ (Wd rfl H (fun H=>?_) (fun H=>?_))))))
   ·refine G (R 2 rfl (Ef 0 rfl (R 2 rfl (NQ (Wt (QB.r (QT.r (QT.r (QB.r (QT.r ?_))))))))))
    cases H
    exact Ends.autoC tk rfl rfl rfl tv
   refine Wk (Qb (Qn ?_))
   exact Wg (R 2 rfl (NQ (⟨⟨(k9,(IntKind.i64.wrap (s8.1+1),(aset 2 s8.2.1 s8.1.toNat x13.1),x13.2.s,x13.2.at_,x13.2.err)),H⟩,Z,Lm p8 p4⟩)))
  refine Wg (R 2 rfl ?_)
  obtain ⟨x17,hx17,H⟩:=al H
  refine Cl [] (cw 2140 rfl _ hx17) cx rfl p1 rfl (WL.yv (LJ.Y.min rfl rfl rfl) rfl rfl rfl (R 1 rfl ?_))
  obtain ⟨g18,H⟩:=av H
  refine WL.yv (LJ.Y.idxPtrA 2 s8.1 (by kernel_rfl) rfl rfl rfl (ao g18)) rfl rfl rfl (WL.wo (WO.storePtrA 2 0 (fun x:Int=>DV.int .i64 x) s8.2.1 (IntKind.i64.wrap (iMin x17.1 (2147483648:Int))) s8.1 (cs':=[.d (.int .i64 ((aset 2 s8.2.1 s8.1.toNat (IntKind.i64.wrap (iMin x17.1 (2147483648:Int)))).getD 0 default)), .d (.int .i64 ((aset 2 s8.2.1 s8.1.toNat (IntKind.i64.wrap (iMin x17.1 (2147483648:Int)))).getD 1 default))]) rfl rfl rfl rfl rfl (by kernel_rfl) rfl rfl (ao g18) rfl rfl rfl) rfl (N (R 1 rfl ?_)))
  obtain ⟨x19,hx19,H⟩:=al H
  refine Cl [] (aZ 2140 rfl _ hx19) ba rfl p1 rfl (R 1 rfl (N (R 2 rfl (NQ (Wd rfl H (fun H=>?_) (fun H=>?_))))))
  ·refine G (R 2 rfl (Ef 0 rfl (R 2 rfl (NQ (Wt (QB.r (QT.r (QT.r (QB.r (QT.r ?_))))))))))
   cases H
   exact Ends.autoC tk rfl rfl rfl tv
  refine Wk (Qb (Qn ?_))
  exact Wg (R 2 rfl (NQ (⟨⟨(k9,(IntKind.i64.wrap (s8.1+1),(aset 2 s8.2.1 s8.1.toNat (IntKind.i64.wrap (iMin x17.1 (2147483648:Int)))),x17.2.s,x17.2.at_,x17.2.err)),H⟩,Z,Lm p8 p4⟩)))
 refine WC.exit (Qx (Qx (Qh (Qn ?_))))
 refine Ws (Hp (.one 0 true (.one 1 true (.one 2 true (.one 3 true (.one 4 true (.one 5 false (.one 6 true (.one 7 false .done)))))))) [102,106,109,2140] [102,109,2140] rfl (by kernel_rfl) rfl (by kernel_rfl) rfl rfl (fun _ h=>h) rfl rfl rfl (fun _ _ _ h=>h) fun FK NK wK K=>?_)
 obtain ⟨g21,H⟩:=av H
 refine WH.yv rfl (LJ.Y.idxPtrA 2 (0:Int) (by kernel_rfl) rfl rfl rfl (ao g21)) rfl rfl rfl (WH.yv rfl (LJ.Y.loadPtrA 2 0 (fun k=> .int .i64 (s8.2.1.getD k default)) (0:Int) rfl rfl rfl (by kernel_rfl) rfl (ao g21)) rfl rfl rfl ?_)
 obtain ⟨g22,H⟩:=av H
 refine WH.yv rfl (LJ.Y.idxPtrA 2 (1:Int) (by kernel_rfl) rfl rfl rfl (ao g22)) rfl rfl rfl (WH.yv rfl (LJ.Y.loadPtrA 2 0 (fun k=> .int .i64 (s8.2.1.getD k default)) (1:Int) rfl rfl rfl (by kernel_rfl) rfl (ao g22)) rfl rfl rfl (Hr 1 tk rfl rfl rfl rfl tv (He 0 tk ek rfl rfl rfl rfl tv rfl rfl (Hr 1 tk rfl rfl rfl rfl tv (He 0 tk ek rfl rfl rfl rfl tv rfl rfl (WH.nil rfl (Qn (Ws (G (R 1 rfl ?_))))))))))
 obtain ⟨x23,hx23,H⟩:=al H
 refine Cl [] (na _ hx23) nb rfl tv rfl (R 1 rfl (N (R 2 rfl (NQ (Wd rfl H (fun H=>?_) (fun H=>?_))))))
 ·refine G (R 2 rfl (Ef 0 rfl (R 2 rfl (NQ (Wt (QT.r ?_))))))
  cases H
  exact Ends.autoC tk rfl rfl rfl tv
 refine Wk (Qn (Ws (Hp (.one 0 true (.one 1 true (.one 2 true (.one 3 true (.one 4 false (.one 5 true (.one 6 false (.one 7 true (.one 8 true .done))))))))) [102,106,109,2140] [106,109] rfl (by kernel_rfl) rfl (by kernel_rfl) rfl rfl (fun _ h=>h) rfl rfl rfl (fun _ _ _ h=>h) fun FK NK wK K=>(Hr 4 tk rfl rfl rfl rfl tv ?_))))
 obtain ⟨x25,hx25,H⟩:=al H
 refine WH.call [] rfl (da 2140 rfl _ hx25) db rfl rfl p1 rfl rfl rfl rfl rfl (Hr 1 tk rfl rfl rfl rfl tv (He 0 tk ek rfl rfl rfl rfl tv rfl rfl (Hr 2 tk rfl rfl rfl rfl tv (WH.nil rfl (Qn (Wt ?_))))))
 cases H
 exact Ends.autoC tk rfl rfl rfl tv
theorem Ch:aE Tryz.prog 143 Tryz.f143:=⟨Tryz.func143,rfl,by kernel_rfl⟩
theorem hX (a0:aw) {z:Int ⊕ (ax×aw)} (H:bW a0=some z):LJ.mX Tryz.prog 121 [.ptr 0 0] [(0, .box 173 [.d (.str a0.s)])] (fun e=> .iface 169 (.agg #[.int .i64 e])) (fun (r:ax×aw)=>(.d (.agg [.int .i64 r.1.Args, .int .i64 r.1.Locals,slT aF r.1.Code]),[(0, .box 173 [.d (.str r.2.s)])])) z:=by
 refine LJ.mX.code Tryz.func121 rfl 37 rfl rfl [0] rfl fun w0 F0 S0 B0=>?_
 unfold bW at H
 refine G (Wa 102 tk rfl rfl rfl (N (R 1 rfl ?_)))
 rcases fX H with ⟨e,hx1,rfl⟩ | ⟨x1r,hx1,H⟩
 ·exact WL.callP (ir _ hx1) dC rfl rfl p1 rfl rfl ⟨_,rfl,rfl⟩
 refine Cl [] (iu 0 rfl _ hx1) dC rfl p1 rfl (R 1 rfl ?_)
 rcases fX H with ⟨e,hx2,rfl⟩ | ⟨x2r,hx2,H⟩
 ·exact WL.callP (ir _ hx2) dC rfl rfl p1 rfl rfl ⟨_,rfl,rfl⟩
 refine Cl [] (iu 0 rfl _ hx2) dC rfl p1 rfl (R 1 rfl (Wa 103 tk rfl rfl rfl (Ef 0 rfl (NS (G (R 1 rfl ?_))))))
 rcases fX H with ⟨e,hx3,rfl⟩ | ⟨x3r,hx3,H⟩
 ·exact WL.callP (gV _ _ hx3) di rfl rfl p1 rfl rfl ⟨_,rfl,rfl⟩
 refine Cl [] (gX 0 rfl _ _ hx3) di rfl p1 rfl (R 1 rfl (NQ (Wb (WC.nilF 103 2 1030 100 3 rfl (Wl (ι:= {x:Nat×(Int×ByteArray×(List ar)) //bO x1r x2r x3r x.1 x.2=some z}) (fun x=>[(0, .ptr 0 0),(2, .ptr 102 0),(3, .ptr 103 0),(13, .d (.int .i64 x3r.1)),(14, .d (.int .i64 x.1.2.1))]) (fun x=>[(0, .box 173 [.d (.str x.1.2.2.1)]),(102, .box 98 [.d (.int .i64 0), .d (.int .i64 0), .d (.nils)]),(103, .box 98 [.d (.int .i64 x1r.1), .d (.int .i64 x2r.1), .own 1030]),(1030, .row 100 3 (x.1.2.2.2.map aF))]) (fun x=>x.1.1) ⟨(fuel,(0,x3r.2.s,([]:List ar))),H⟩ (Lm p5 p4) fun x=>?_)))))
 obtain ⟨⟨k6,s5⟩,H⟩:=x
 rcases k6 with _ | k6
 ·exact aQ H
 rw [bO] at H
 refine G (R 1 rfl (NS (Wd rfl H (fun H=>?_) (fun H=>?_))))
 ·refine Wk (Qn (Ws (Wb (G (R 4 rfl ?_)))))
  obtain ⟨x8,hx8,H⟩:=al H
  refine Cl [] (Cg _ hx8) Ch rfl tv rfl (R 4 rfl (Wa 104 tk rfl rfl rfl (Ef 0 rfl (R 2 rfl (N (R 3 rfl ?_))))))
  rcases fX H with ⟨e,hx9,rfl⟩ | ⟨x9r,hx9,H⟩
  ·exact WL.callP (dg _ _ _ hx9) bC rfl rfl p1 rfl rfl ⟨_,rfl,rfl⟩
  refine Cl [] (dh 0 rfl _ _ _ hx9) bC rfl p1 rfl (NQ (Wg (R 3 rfl (Ef 132 rfl (WL.freezeT 132 aF ([x8.1]:List ar) rfl rfl rfl rfl ?_)))))
  obtain ⟨g10,H⟩:=av H
  refine WL.appT aF s5.2.2 ([x8.1]:List ar) tk ek rfl rfl (fun _=>rfl) (fun _=>rfl) rfl rfl rfl rfl (cg g10) rfl rfl rfl rfl rfl ?_
  refine R 1 rfl (Ef 0 rfl (Wn (Qb (Qn ?_))))
  exact Wg (R 2 rfl (NQ (⟨⟨(k6,(IntKind.i64.wrap (s5.1+1),x9r.s,s5.2.2++([x8.1]:List ar))),H⟩,Z,Lm p5 p4⟩)))
 refine WC.exit (Qx (Qx (Qh (Qn ?_))))
 refine G (WL.freezeT 1030 aF s5.2.2 rfl rfl rfl rfl (R 1 rfl (Ef 0 rfl (NQ (Wt ?_)))))
 cases H
 refine ⟨_,rfl,?_⟩
 exact Ends.autoC tk rfl rfl rfl p1
theorem lg (a0:aw) {r:ax×aw} (H:bW a0=some (.inr r)):LJ.Spec Tryz.prog 121 [.ptr 0 0] [(0, .box 173 [.d (.str a0.s)])] (.d (.agg [.int .i64 r.1.Args, .int .i64 r.1.Locals,slT aF r.1.Code])) [(0, .box 173 [.d (.str r.2.s)])]:=hX a0 H
theorem hZ (a0:aw) {e:Int} (H:bW a0=some (.inl e)):LJ.mJ Tryz.prog 121 [.ptr 0 0] [(0, .box 173 [.d (.str a0.s)])] (.iface 169 (.agg #[.int .i64 e])):=hX a0 H
theorem ia (n0:Nat) (hn:cL [n0]=true) (a0:aw) {r:ax×aw} (H:bW a0=some (.inr r)):LJ.Spec Tryz.prog 121 [.ptr n0 0] [(n0, .box 173 [.d (.str a0.s)])] (.d (.agg [.int .i64 r.1.Args, .int .i64 r.1.Locals,slT aF r.1.Code])) [(n0, .box 173 [.d (.str r.2.s)])]:=
 Spec.names [n0] hn rfl rfl (lg a0 H)
theorem dL:aE Tryz.prog 121 Tryz.f121:=⟨Tryz.func121,rfl,by kernel_rfl⟩
theorem iR (a0:aw) {z:Int ⊕ (aa×aw)} (H:b9 a0=some z):LJ.mX Tryz.prog 95 [.ptr 0 0] [(0, .box 173 [.d (.str a0.s)])] (fun e=> .iface 169 (.agg #[.int .i64 e])) (fun (r:aa×aw)=>(.d (.agg [slT aj r.1.Decls,slT ab r.1.Waits,slT ak r.1.Funcs]),[(0, .box 173 [.d (.str r.2.s)])])) z:=by
 refine LJ.mX.code Tryz.func95 rfl 71 rfl rfl [0] rfl fun w0 F0 S0 B0=>?_
 unfold b9 at H
 refine G (Wa 102 tk rfl rfl rfl (N (R 4 rfl ?_)))
 obtain ⟨x1,hx1,H⟩:=al H
 refine Cl [] (Aa _ hx1) Ab rfl tv rfl (R 7 rfl (N (R 3 rfl ?_)))
 rcases fX H with ⟨e,hx2,rfl⟩ | ⟨x2r,hx2,H⟩
 ·exact WL.callP (dg _ _ _ hx2) bC rfl rfl p1 rfl rfl ⟨_,rfl,rfl⟩
 refine Cl [] (dh 0 rfl _ _ _ hx2) bC rfl p1 rfl (N (R 2 rfl (Wa 106 tk rfl rfl rfl (Ef 0 rfl (NS (G (R 1 rfl ?_)))))))
 rcases fX H with ⟨e,hx3,rfl⟩ | ⟨x3r,hx3,H⟩
 ·exact WL.callP (gV _ _ hx3) di rfl rfl p1 rfl rfl ⟨_,rfl,rfl⟩
 refine Cl [] (gX 0 rfl _ _ hx3) di rfl p1 rfl (R 1 rfl (NQ (Wb (WC.nilF 106 1 1045 94 1 rfl (Wl (ι:= {x:Nat×(Int×ByteArray×(List (List (List ah)))) //bZ x1 x3r x.1 x.2=some z}) (fun x=>[(0, .ptr 0 0),(2, .ptr 102 0),(6, .ptr 106 0),(26, .d (.int .i64 x3r.1)),(27, .d (.int .i64 x.1.2.1))]) (fun x=>[(0, .box 173 [.d (.str x.1.2.2.1)]),(102, .box 28 [.d (.nils), .d (.nils), .d (.nils)]),(106, .box 28 [.d (slT aj x1.1), .own 1045, .d (.nils)]),(1045, .row 94 1 (x.1.2.2.2.map ab))]) (fun x=>x.1.1) ⟨(fuel,(0,x3r.2.s,([]:List (List (List ah))))),H⟩ (Lm p5 p4) fun x=>?_)))))
 obtain ⟨⟨k6,s5⟩,H⟩:=x
 rcases k6 with _ | k6
 ·exact aQ H
 rw [bZ] at H
 refine G (R 1 rfl (NS (Wd rfl H (fun H=>?_) (fun H=>?_))))
 ·refine Wk (Qn (Ws (Wb (Ws ?_))))
  obtain ⟨x6_6_1,hx6_6_1,H⟩:=al H
  refine WC.heldF [(0, .ptr 0 0),(2, .ptr 102 0),(6, .ptr 106 0),(7, .d (slT aC x6_6_1.1)),(8, .d (.int .i64 x6_6_1.2.1)),(9, .d (.int .i64 x6_6_1.2.2)),(26, .d (.int .i64 x3r.1)),(27, .d (.int .i64 s5.1))] [(0, .box 173 [.d (.str s5.2.1)]),(102, .box 28 [.d (.nils), .d (.nils), .d (.nils)]),(106, .box 28 [.d (slT aj x1.1), .own 1045, .d (.nils)]),(1045, .row 94 1 (s5.2.2.map ab))] (sT 0 (sT 1 (sT 2 (sT 3 (sT 4 (sT 5 (sf 6 (sT 7 (fk (sf 8 (sT 11 (fk (sf 9 (sT 12 (sf 10 (sT 13 sd)))) (sf 10 (sf 9 (sT 12 (sT 13 sd))))))) (fk (sf 9 (fk (sf 8 (sT 11 (sT 12 (sf 10 (sT 13 sd))))) (sf 10 (sf 8 (sT 11 (sT 12 (sT 13 sd))))))) (sf 10 (fk (sf 8 (sT 11 (sf 9 (sT 12 (sT 13 sd))))) (sf 9 (sf 8 (sT 11 (sT 12 (sT 13 sd))))))))))))))))) [0,102,106] [0,102,106] rfl (by kernel_rfl) rfl (by kernel_rfl) rfl rfl (fun _ h=>h) rfl rfl rfl (fun FK NK wK K=>?_) ?_
  ·refine Hr 6 tk rfl rfl rfl rfl tv (WH.call [] rfl (Ac _ _ hx6_6_1) Ad rfl rfl tv rfl rfl rfl rfl rfl (WH.mv rfl rfl rfl rfl rfl rfl rfl rfl rfl (WH.fork ?_ (WH.fork ?_ ?_))))
   ·refine WH.val tk rfl rfl rfl rfl rfl tv rfl rfl (WH.mv rfl rfl rfl rfl rfl rfl rfl rfl rfl (WH.fork ?_ ?_))
    ·exact WH.val tk rfl rfl rfl rfl rfl tv rfl rfl (Hr 1 tk rfl rfl rfl rfl tv (WH.val tk rfl rfl rfl rfl rfl tv rfl rfl (Hr 1 tk rfl rfl rfl rfl tv (Hn rfl (Lw q8 p4)))))
    ·exact WH.val tk rfl rfl rfl rfl rfl tv rfl rfl (WH.val tk rfl rfl rfl rfl rfl tv rfl rfl (Hr 2 tk rfl rfl rfl rfl tv (Hn rfl (Lw q8 p4))))
   ·refine WH.val tk rfl rfl rfl rfl rfl tv rfl rfl (WH.fork ?_ ?_)
    ·exact WH.val tk rfl rfl rfl rfl rfl tv rfl rfl (WH.mv rfl rfl rfl rfl rfl rfl rfl rfl rfl (Hr 1 tk rfl rfl rfl rfl tv (WH.val tk rfl rfl rfl rfl rfl tv rfl rfl (Hr 1 tk rfl rfl rfl rfl tv (Hn rfl (Lw q8 p4))))))
    ·exact WH.val tk rfl rfl rfl rfl rfl tv rfl rfl (WH.val tk rfl rfl rfl rfl rfl tv rfl rfl (WH.mv rfl rfl rfl rfl rfl rfl rfl rfl rfl (Hr 2 tk rfl rfl rfl rfl tv (Hn rfl (Lw q8 p4)))))
   ·refine WH.val tk rfl rfl rfl rfl rfl tv rfl rfl (WH.fork ?_ ?_)
    ·exact WH.val tk rfl rfl rfl rfl rfl tv rfl rfl (WH.mv rfl rfl rfl rfl rfl rfl rfl rfl rfl (WH.val tk rfl rfl rfl rfl rfl tv rfl rfl (Hr 2 tk rfl rfl rfl rfl tv (Hn rfl (Lw q8 p4)))))
    ·exact WH.val tk rfl rfl rfl rfl rfl tv rfl rfl (WH.val tk rfl rfl rfl rfl rfl tv rfl rfl (WH.mv rfl rfl rfl rfl rfl rfl rfl rfl rfl (Hr 2 tk rfl rfl rfl rfl tv (Hn rfl (Lw q8 p4)))))
  ·refine Qn (G (R 3 rfl ?_))
   rcases fX H with ⟨e,hx8,rfl⟩ | ⟨x8r,hx8,H⟩
   ·exact WL.callP (dg _ _ _ hx8) bC rfl rfl p1 rfl rfl ⟨_,rfl,rfl⟩
   refine Cl [] (dh 0 rfl _ _ _ hx8) bC rfl p1 rfl (NQ (Wg (R 3 rfl (Ef 147 rfl (WL.freezeT 147 ab ([x6_6_1.1]:List (List (List ah))) rfl rfl rfl rfl ?_)))))
   obtain ⟨g9,H⟩:=av H
   refine WL.appT ab s5.2.2 ([x6_6_1.1]:List (List (List ah))) tk ek rfl rfl (fun _=>rfl) (fun _=>rfl) rfl rfl rfl rfl (cg g9) rfl rfl rfl rfl rfl ?_
   refine R 1 rfl (Ef 0 rfl (Wn (Qb (Qn ?_))))
   exact Wg (R 2 rfl (NQ (⟨⟨(k6,(IntKind.i64.wrap (s5.1+1),x8r.s,s5.2.2++([x6_6_1.1]:List (List (List ah))))),H⟩,Z,Lm p5 p4⟩)))
 refine WC.exit (Qx (Qx (Qh (Qn ?_))))
 refine Ws (G (R 1 rfl ?_))
 rcases fX H with ⟨e,hx10,rfl⟩ | ⟨x10r,hx10,H⟩
 ·exact WL.callP (gV _ _ hx10) di rfl rfl p1 rfl rfl ⟨_,rfl,rfl⟩
 refine Cl [] (gX 0 rfl _ _ hx10) di rfl p1 rfl (R 1 rfl (NQ (Wb (WC.nilF 106 2 1056 98 3 rfl (Wl (ι:= {x:Nat×(Int×ByteArray×(List ax)) //bP x1 s5 x10r x.1 x.2=some z}) (fun x=>[(0, .ptr 0 0),(2, .ptr 102 0),(6, .ptr 106 0),(52, .d (.int .i64 x10r.1)),(53, .d (.int .i64 x.1.2.1))]) (fun x=>[(0, .box 173 [.d (.str x.1.2.2.1)]),(102, .box 28 [.d (.nils), .d (.nils), .d (.nils)]),(106, .box 28 [.d (slT aj x1.1), .own 1045, .own 1056]),(1045, .row 94 1 (s5.2.2.map ab)),(1056, .row 98 3 (x.1.2.2.2.map ak))]) (fun x=>x.1.1) ⟨(fuel,(0,x10r.2.s,([]:List ax))),H⟩ (Lm p5 p5) fun x=>?_)))))
 obtain ⟨⟨k13,s12⟩,H⟩:=x
 rcases k13 with _ | k13
 ·exact aQ H
 rw [bP] at H
 refine G (R 1 rfl (NS (Wd rfl H (fun H=>?_) (fun H=>?_))))
 ·refine Wk (Qn (Ws (Wb ?_)))
  rcases fX H with ⟨e,hx12_3_1,rfl⟩ | ⟨x12_3_1r,hx12_3_1,H⟩
  ·refine Hp (.one 0 true (.one 2 true (.fork (.one 1 false (.one 3 false (.one 4 false (.one 5 false (.one 6 true (.one 7 false .done)))))) (.one 3 false (.fork (.one 1 false (.one 4 false (.one 5 false (.one 6 true (.one 7 false .done))))) (.one 4 false (.one 1 false (.one 5 false (.one 6 true (.one 7 false .done)))))))))) [0,102,106] [102] rfl (by kernel_rfl) rfl (by kernel_rfl) rfl rfl (fun _ h=>h) rfl rfl rfl (fun _ _ _ h=>h) fun FK NK wK K=>(Hr 2 tk rfl rfl rfl rfl tv (WH.fork ?_ ?_))
   ·exact WH.val tk rfl rfl rfl rfl rfl tv rfl rfl (WH.callP rfl (hZ _ hx12_3_1) dL rfl rfl p1 rfl rfl rfl ⟨_,rfl,rfl⟩)
   ·exact WH.callP rfl (hZ _ hx12_3_1) dL rfl rfl p1 rfl rfl rfl ⟨_,rfl,rfl⟩
  obtain ⟨g12_5_1,H⟩:=av H
  refine WC.heldF [(0, .ptr 0 0),(2, .ptr 102 0),(6, .ptr 106 0),(52, .d (.int .i64 x10r.1)),(53, .d (.int .i64 s12.1))] [(0, .box 173 [.d (.str x12_3_1r.2.s)]),(102, .box 28 [.d (.nils), .d (.nils), .d (.nils)]),(106, .box 28 [.d (slT aj x1.1), .own 1045, .own 1056]),(1045, .row 94 1 (s5.2.2.map ab)),(1056, .row 98 3 ((s12.2.2++([x12_3_1r.1]:List ax)).map ak))] (sT 0 (sT 2 (fk (sf 1 (sf 3 (sf 4 (sf 5 (sT 6 (sf 7 sd)))))) (sf 3 (fk (sf 1 (sf 4 (sf 5 (sT 6 (sf 7 sd))))) (sf 4 (sf 1 (sf 5 (sT 6 (sf 7 sd)))))))))) [0,102,106] [102] rfl (by kernel_rfl) rfl (by kernel_rfl) rfl rfl (fun _ h=>h) rfl rfl rfl (fun FK NK wK K=>?_) ?_
  ·refine Hr 2 tk rfl rfl rfl rfl tv (WH.fork ?_ ?_)
   ·refine WH.val tk rfl rfl rfl rfl rfl tv rfl rfl (WH.call [] rfl (ia 0 rfl _ hx12_3_1) dL rfl rfl p1 rfl rfl rfl rfl rfl (He 159 tk ek rfl rfl rfl rfl tv rfl rfl (WH.freezeT 159 ak ([x12_3_1r.1]:List ax) rfl rfl rfl rfl (WH.appT ak s12.2.2 ([x12_3_1r.1]:List ax) tk ek rfl rfl (fun _=>rfl) (fun _=>rfl) rfl rfl rfl rfl rfl (cg g12_5_1) rfl rfl rfl rfl rfl rfl rfl ?_))))
    exact Hr 1 tk rfl rfl rfl rfl tv (He 0 tk ek rfl rfl rfl rfl tv rfl rfl (Hn rfl (Lw q5 p5)))
   ·refine WH.call [] rfl (ia 0 rfl _ hx12_3_1) dL rfl rfl p1 rfl rfl rfl rfl rfl (WH.fork ?_ ?_)
    ·refine WH.val tk rfl rfl rfl rfl rfl tv rfl rfl (He 159 tk ek rfl rfl rfl rfl tv rfl rfl (WH.freezeT 159 ak ([x12_3_1r.1]:List ax) rfl rfl rfl rfl (WH.appT ak s12.2.2 ([x12_3_1r.1]:List ax) tk ek rfl rfl (fun _=>rfl) (fun _=>rfl) rfl rfl rfl rfl rfl (cg g12_5_1) rfl rfl rfl rfl rfl rfl rfl ?_)))
     exact Hr 1 tk rfl rfl rfl rfl tv (He 0 tk ek rfl rfl rfl rfl tv rfl rfl (Hn rfl (Lw q5 p5)))
    ·refine He 159 tk ek rfl rfl rfl rfl tv rfl rfl (WH.freezeT 159 ak ([x12_3_1r.1]:List ax) rfl rfl rfl rfl (WH.val tk rfl rfl rfl rfl rfl tv rfl rfl (WH.appT ak s12.2.2 ([x12_3_1r.1]:List ax) tk ek rfl rfl (fun _=>rfl) (fun _=>rfl) rfl rfl rfl rfl rfl (cg g12_5_1) rfl rfl rfl rfl rfl rfl rfl ?_)))
     exact Hr 1 tk rfl rfl rfl rfl tv (He 0 tk ek rfl rfl rfl rfl tv rfl rfl (Hn rfl (Lw q5 p5)))
  ·refine Qb (Qn ?_)
   exact Wg (R 2 rfl (NQ (⟨⟨(k13,(IntKind.i64.wrap (s12.1+1),x12_3_1r.2.s,s12.2.2++([x12_3_1r.1]:List ax))),H⟩,Z,Lm p5 p5⟩)))
 refine WC.exit (Qx (Qx (Qh (Qn ?_))))
 refine Ws (G (R 5 rfl (NQ (Wd rfl H (fun H=>?_) (fun H=>?_)))))
 ·refine Wg (R 1 rfl ?_)
  cases H
  exact WL.panicI rfl rfl rfl rfl rfl rfl rfl (by kernel_rfl) ⟨_,rfl,rfl⟩
 refine Wk (Qn (G (WL.freezeT 1045 ab s5.2.2 rfl rfl rfl rfl (WL.freezeT 1056 ak s12.2.2 rfl rfl rfl rfl (R 1 rfl (Ef 0 rfl (NQ (Wt ?_))))))))
 cases H
 refine ⟨_,rfl,?_⟩
 exact Ends.autoC tk rfl rfl rfl p1
theorem ma (a0:aw) {r:aa×aw} (H:b9 a0=some (.inr r)):LJ.Spec Tryz.prog 95 [.ptr 0 0] [(0, .box 173 [.d (.str a0.s)])] (.d (.agg [slT aj r.1.Decls,slT ab r.1.Waits,slT ak r.1.Funcs])) [(0, .box 173 [.d (.str r.2.s)])]:=iR a0 H
theorem mb (a0:aw) {e:Int} (H:b9 a0=some (.inl e)):LJ.mJ Tryz.prog 95 [.ptr 0 0] [(0, .box 173 [.d (.str a0.s)])] (.iface 169 (.agg #[.int .i64 e])):=iR a0 H
theorem mc (n0:Nat) (hn:cL [n0]=true) (a0:aw) {r:aa×aw} (H:b9 a0=some (.inr r)):LJ.Spec Tryz.prog 95 [.ptr n0 0] [(n0, .box 173 [.d (.str a0.s)])] (.d (.agg [slT aj r.1.Decls,slT ab r.1.Waits,slT ak r.1.Funcs])) [(n0, .box 173 [.d (.str r.2.s)])]:=
 Spec.names [n0] hn rfl rfl (ma a0 H)
theorem iT:aE Tryz.prog 95 Tryz.f95:=⟨Tryz.func95,rfl,by kernel_rfl⟩
theorem Ae (a0:ByteArray) {z:Int ⊕ (aa×Int)} (H:mm a0=some z) (w0:World) (F0 S0:Nat→Prop) (B0:bb) (ds:List Deferred):WC {w0:=w0,F0:=F0,S0:=S0,ntmps:=25,P0:=[1,2],B0:=B0,dfs:=ds} Tryz.prog (Ei Tryz.f64) (Fa Tryz.prog Tryz.f64 169 28 34 [.nils, .nils, .nils] (fun (r:aa×Int)=> .tup [.d (.agg [slT aj r.1.Decls,slT ab r.1.Waits,slT ak r.1.Funcs]), .d (.int .i64 r.2)]) z) [(3, .ptr 2 0),(2, .ptr 1 0),(0, .d (.str a0))] [(2, .box 34 [.d (.int .i64 0)]),(1, .box 28 [.d (.nils), .d (.nils), .d (.nils)])]:=by
 unfold mm at H
 refine Ws (G (R 1 rfl ?_))
 obtain ⟨x1,hx1,H⟩:=al H
 refine Cl [] (ng _ _ hx1) nh rfl tv rfl (R 1 rfl (NQ (Wd rfl H (fun H=>?_) (fun H=>?_))))
 ·refine G (R 1 rfl (Ef 0 rfl (Ef 0 rfl (NQ (WC.nilF 1 0 5010 93 3 rfl (WC.row 5010 (([]:List ai).map aj) rfl rfl rfl (WC.nilF 1 1 5011 94 1 rfl (WC.row 5011 (([]:List (List (List ah))).map ab) rfl rfl rfl (WC.nilF 1 2 5012 98 3 rfl (WC.row 5012 (([]:List ax).map ak) rfl rfl rfl (WC.freezeT 5010 aj ([]:List ai) rfl rfl rfl rfl (WC.freezeT 5011 ab ([]:List (List (List ah))) rfl rfl rfl rfl (WC.freezeT 5012 ak ([]:List ax) rfl rfl rfl rfl (Wt (QT.r ?_)))))))))))))))
  cases H
  refine ⟨_,rfl,?_⟩
  exact Ends.autoC tk rfl rfl rfl tv
 refine Wk (Qn (G ?_))
 obtain ⟨g3,H⟩:=av H
 refine RS 3 rfl ⟨(vf g3),tv⟩ (Ef 0 rfl (R 1 rfl (N (R 1 rfl ?_))))
 rcases fX H with ⟨e,hx4,rfl⟩ | ⟨x4r,hx4,H⟩
 ·exact WL.callPK [(2, .ptr 1 0),(3, .ptr 2 0)] [(1, .box 28 [.d (.nils), .d (.nils), .d (.nils)]),(2, .box 34 [.d (.int .i64 0)])] (mb _ hx4) iT rfl rfl p1 rfl ⟨rfl,⟨_,_,rfl⟩,rfl,⟨_,_,rfl⟩,tv⟩ p2 rfl rfl ⟨_,rfl,rfl,rfl,rfl,rfl,rfl⟩
 refine Cl [] (mc 0 rfl _ hx4) iT rfl p1 rfl (Wa 105 tk rfl rfl rfl (Ef 0 rfl (NS (G (R 1 rfl ?_)))))
 obtain ⟨x5,hx5,H⟩:=al H
 refine Cl [] (lZ _ hx5) l0 rfl tv rfl (R 1 rfl (N (R 2 rfl (NQ (Wd rfl H (fun H=>?_) (fun H=>?_))))))
 ·refine G (R 2 rfl (Ef 0 rfl (Ef 0 rfl (NQ (WC.nilF 1 0 5010 93 3 rfl (WC.row 5010 (([]:List ai).map aj) rfl rfl rfl (WC.nilF 1 1 5011 94 1 rfl (WC.row 5011 (([]:List (List (List ah))).map ab) rfl rfl rfl (WC.nilF 1 2 5012 98 3 rfl (WC.row 5012 (([]:List ax).map ak) rfl rfl rfl (WC.freezeT 5010 aj ([]:List ai) rfl rfl rfl rfl (WC.freezeT 5011 ab ([]:List (List (List ah))) rfl rfl rfl rfl (WC.freezeT 5012 ak ([]:List ax) rfl rfl rfl rfl (Wt (QT.r ?_)))))))))))))))
  cases H
  refine ⟨_,rfl,?_⟩
  exact Ends.autoC tk rfl rfl rfl tv
 refine Wk (Qn (G (R 1 rfl (Ef 0 rfl (Ef 0 rfl (NQ (Wt ?_)))))))
 cases H
 refine ⟨_,rfl,?_⟩
 exact Ends.autoC tk rfl rfl rfl tv
theorem Af:aE Tryz.prog 64 Tryz.f64:=⟨Tryz.func64,rfl,by kernel_rfl⟩
theorem Df (w0:World) (F0 S0:Nat→Prop) (B0:bb) (e:Int):WC {w0:=w0,F0:=F0,S0:=S0,ntmps:=19,P0:=[1,2],B0:=B0} Tryz.prog (yE Tryz.f93) (fun x E m=>x= .normal∧m.get 1=some (.box 28 [.d .nils, .d .nils, .d .nils])∧m.get 2=some (.box 34 [.d (.int .i64 e)])) [(3, .ptr 3 0),(1, .ptr 2 0),(0, .ptr 1 0)] [(3, .box 169 [.d (.int .i64 e)]),(2, .box 34 [.d (.int .i64 0)]),(1, .box 28 [.d .nils, .d .nils, .d .nils])]:=by
 exact Hp (.one 0 true (.one 1 true (.one 2 true (.one 3 false (.one 4 false .done))))) [1,2,3] [3] rfl (by kernel_rfl) rfl (by kernel_rfl) rfl rfl (fun _ h=>h) rfl rfl rfl (fun _ _ _ h=>by cases h.1) fun FK NK wK K=>(Hr 3 tk rfl rfl rfl rfl tv (He 0 tk ek rfl rfl rfl rfl tv rfl rfl (He 0 tk ek rfl rfl rfl rfl tv rfl rfl (WH.nil rfl (⟨rfl,rfl,rfl⟩)))))
theorem Dg:Fb Tryz.prog 93:=fun p q w=>by
 refine callsD_of_wpS Tryz.func93 rfl fun c₀ cs hu=>?_
 apply wpS_seq
 apply wpS_region
 simp [wpOpsS,go_sem,recoverD,hu,Tryz.ntmps93,Exit.thenS]
 apply wpS_seq
 apply wpS_region
 simp [wpOpsS,go_sem,Exit.thenS]
 refine wpS_cond (t:=false) (by simp [Act.eval,Array.replicate]) ?_
 simp only [Bool.false_eq_true,if_false]
 refine wpS_of_wp (wp_skip ?_)
 cases c₀
 simp_all [bodyPostS,results,Tryz.results93]
theorem Ci:Bf Tryz.prog 93 169 28 34 #[.slice none 0 0, .slice none 0 0, .slice none 0 0]:=fun F bp bq e w hG hFin hFp hFq hne hp hq=>by
 refine callsD_of_wpS Tryz.func93 rfl fun c₀ cs hu=>?_
 apply wpS_seq
 apply wpS_region
 simp [wpOpsS,go_sem,recoverD,hu,Tryz.ntmps93,Exit.thenS]
 apply wpS_seq
 apply wpS_region
 simp [wpOpsS,go_sem,Exit.thenS]
 refine wpS_cond (t:=true) (by simp [Act.eval,Array.replicate]) ?_
 simp only [if_true]
 have hTA:∀ W,(Instr.typeAssert (Value.iface 169 (Value.agg #[Value.int .i64 e])) 20 169 true).run Tryz.prog W= .ok (.tuple #[.agg #[.int .i64 e], .bool true]) W:=fun W=>by kernel_rfl
 apply wpS_seq
 apply wpS_region
 simp [wpOpsS,go_sem,Exit.thenS,hTA]
 apply wpS_seq
 apply wpS_seq
 apply wpS_region
 simp [wpOpsS,go_sem,Exit.thenS]
 refine wpS_cond (t:=false) (by simp [Act.eval,Array.replicate]) ?_
 simp only [Bool.false_eq_true,if_false]
 refine wpS_of_wp (wp_skip ?_)
 simp only [Exit.thenS]
 refine wpS_of_wp ?_
 have hlt:∀ b,(w.heap[b]?).isSome=true→b<w.heap.size:=fun b hb=>by
  rcases Nat.lt_or_ge b w.heap.size with h | h
  ·exact h
  ·simp [Array.getElem?_eq_none h] at hb
 have lp:=hlt bp (by rw [hp];rfl)
 have lq:=hlt bq (by rw [hq];rfl)
 show Code.wp Tryz.prog (yE Tryz.f93) _ _ _
 refine Bg (T:=28) (T2:=34) (e:=e) (nt:=19) (pt:=169) (fun w0 F0 S0 B0=>Df w0 F0 S0 B0 e) hG hFin hFp hFq hne hp hq lp lq ?_ ?_ ?_ ?_ ?_ ?_ ?_
 ·rfl
 ·simp
 ·rfl
 ·simp [Array.replicate]
 ·simp [Array.replicate]
 ·simp [Array.replicate]
 intro a' w' hd h1 h2 h3 h4 h5 h6 h7
 simp [bodyPostS,results,Tryz.results93,hd,h1,h2,h3,h4,h6,h7]
 exact h5
set_option maxRecDepth 100000 in
theorem Ag (a0:ByteArray) {r:aa×Int} (H:n3 a0=some r):LJ.Spec Tryz.prog 64 [.d (.str a0)] [] (.tup [.d (.agg [slT aj r.1.Decls,slT ab r.1.Waits,slT ak r.1.Funcs]), .d (.int .i64 r.2)]) []:=by
 unfold n3 at H
 obtain ⟨z,hz,H⟩:=al H
 cases H
 exact Spec.recovers (zs:=[.nils, .nils, .nils]) (zv:=#[.slice none 0 0, .slice none 0 0, .slice none 0 0]) (o:=fun (r:aa×Int)=> .tup [.d (.agg [slT aj r.1.Decls,slT ab r.1.Waits,slT ak r.1.Funcs]), .d (.int .i64 r.2)]) (zf:=fun e=>((⟨[],[],[]⟩:aa),e)) Tryz.func64 rfl 25 rfl rfl rfl (fun w0 F0 S0 B0=>Wg (Wa 1 tk rfl rfl rfl (Wa 2 tk rfl rfl rfl (Wn ⟨rfl,rfl,rfl⟩)))) rfl rfl rfl rfl rfl rfl rfl rfl rfl (fun w0 F0 S0 B0 ds=>Ae a0 hz w0 F0 S0 B0 ds) (fun p q w=>by simp [go_sem]) Dg Ci (fun F N w n h=>h.box3) (fun e=>⟨_,_,rfl,nL tk (ps:=[.d (.agg [.nils, .nils, .nils]), .d (.int .i64 e)]) rfl,fun F N w v h=>Rep.tup2 (Le.agg (.cons (Le.nilT _) (.cons (Le.nilT _) (.cons (Le.nilT _) .nil)))) h⟩) (fun F N w n h=>dM.mk3 h)
theorem sy (a0:an) {r:ay×Int×an} (H:eC a0=some r):LJ.Spec Tryz.prog 66 [.ptr 0 0] [(0, .box 131 [.d (.str a0.s), .d (.int .i64 a0.at_), .d (.int .i64 a0.err)])] (.tup [.d (.agg [.int .i64 r.1.Kind, .int .i64 r.1.A, .int .i64 r.1.B]), .d (.int .i64 r.2.1)]) [(0, .box 131 [.d (.str r.2.2.s), .d (.int .i64 r.2.2.at_), .d (.int .i64 r.2.2.err)])]:=by
 refine LJ.Spec.code Tryz.func66 rfl 36 rfl rfl [0] rfl fun w0 F0 S0 B0=>?_
 unfold eC at H
 refine G (Wa 102 tk rfl rfl rfl (R 1 rfl (N (R 1 rfl ?_))))
 obtain ⟨x1,hx1,H⟩:=al H
 refine Cl [] (fH 0 rfl _ hx1) fI rfl p1 rfl (R 1 rfl (Wa 104 tk rfl rfl rfl (Ef 0 rfl (NS (G (R 1 rfl ?_))))))
 obtain ⟨x2,hx2,H⟩:=al H
 refine Cl [] (aZ 0 rfl _ hx2) ba rfl p1 rfl (R 1 rfl (N (R 2 rfl (NQ (Wd rfl H (fun H=>?_) (fun H=>?_))))))
 ·refine G (R 2 rfl (Ef 0 rfl (R 1 rfl (NQ (Wt (QT.r ?_))))))
  cases H
  exact Ends.autoC tk rfl rfl rfl p1
 refine Wk (Qn (Ws (G (R 4 rfl (Wx 3 3 true tk sg0 rfl rfl (fun _=>tv) (RS 1 rfl ⟨by first | exact id | exact fun h=>by rw [h];rfl | simp_all,tv⟩ (NQ (Wd rfl H (fun H=>?_) (fun H=>?_)))))))))
 ·refine G (R 1 rfl (Ef 0 rfl (R 1 rfl (NQ (Wt (QT.r ?_))))))
  cases H
  exact Ends.autoC tk rfl rfl rfl p1
 refine Wk (Qn (G (R 1 rfl ?_)))
 obtain ⟨x5,hx5,H⟩:=al H
 refine Cl [] (iE 0 rfl _ hx5) iG rfl p1 rfl (R 1 rfl (Ef 0 rfl (NS (G (R 3 rfl (NQ (Wd rfl H (fun H=>?_) (fun H=>?_))))))))
 ·refine Wg (R 1 rfl ?_)
  obtain ⟨x7,hx7,H⟩:=al H
  refine Cl [] (iE 0 rfl _ hx7) iG rfl p1 rfl (R 1 rfl (Ef 0 rfl (NS (Hp (.one 0 true (.one 1 true (.one 2 false (.one 3 false (.one 4 true .done))))) [0,102,104] [104] rfl (by kernel_rfl) rfl (by kernel_rfl) rfl rfl (fun _ h=>h) rfl rfl rfl (fun _ _ _ h=>h) fun FK NK wK K=>(Hr 2 tk rfl rfl rfl rfl tv ?_)))))
  obtain ⟨x8,hx8,H⟩:=al H
  refine WH.call [] rfl (aZ 0 rfl _ hx8) ba rfl rfl p1 rfl rfl rfl rfl rfl (He 0 tk ek rfl rfl rfl rfl tv rfl rfl (Hr 1 tk rfl rfl rfl rfl tv (WH.nil rfl (Qn (Wt ?_)))))
  cases H
  exact Ends.autoC tk rfl rfl rfl p1
 refine Wk (Qn (Ws (Hp (.one 0 true (.one 1 true (.one 2 false (.one 3 false (.one 4 true .done))))) [0,102,104] [104] rfl (by kernel_rfl) rfl (by kernel_rfl) rfl rfl (fun _ h=>h) rfl rfl rfl (fun _ _ _ h=>h) fun FK NK wK K=>(Hr 2 tk rfl rfl rfl rfl tv ?_))))
 obtain ⟨x9,hx9,H⟩:=al H
 refine WH.call [] rfl (aZ 0 rfl _ hx9) ba rfl rfl p1 rfl rfl rfl rfl rfl (He 0 tk ek rfl rfl rfl rfl tv rfl rfl (Hr 1 tk rfl rfl rfl rfl tv (WH.nil rfl (Qn (Wt ?_)))))
 cases H
 exact Ends.autoC tk rfl rfl rfl p1
theorem sA (n0:Nat) (hn:cL [n0]=true) (a0:an) {r:ay×Int×an} (H:eC a0=some r):LJ.Spec Tryz.prog 66 [.ptr n0 0] [(n0, .box 131 [.d (.str a0.s), .d (.int .i64 a0.at_), .d (.int .i64 a0.err)])] (.tup [.d (.agg [.int .i64 r.1.Kind, .int .i64 r.1.A, .int .i64 r.1.B]), .d (.int .i64 r.2.1)]) [(n0, .box 131 [.d (.str r.2.2.s), .d (.int .i64 r.2.2.at_), .d (.int .i64 r.2.2.err)])]:=
 Spec.names [n0] hn rfl rfl (sy a0 H)
theorem sB:aE Tryz.prog 66 Tryz.f66:=⟨Tryz.func66,rfl,by kernel_rfl⟩
theorem uJ (a0:an) {r:aq×Int×an} (H:im a0=some r):LJ.Spec Tryz.prog 35 [.ptr 0 0] [(0, .box 131 [.d (.str a0.s), .d (.int .i64 a0.at_), .d (.int .i64 a0.err)])] (.tup [.d (.agg [.int .i64 r.1.Config.Mode, .int .i64 r.1.Config.Workers, .int .i64 r.1.Config.Quantum, .int .i64 r.1.Config.Policy,slT aj r.1.Program.Decls,slT ab r.1.Program.Waits,slT ak r.1.Program.Funcs,slT aB r.1.Events]), .d (.int .i64 r.2.1)]) [(0, .box 131 [.d (.str r.2.2.s), .d (.int .i64 r.2.2.at_), .d (.int .i64 r.2.2.err)])]:=by
 refine LJ.Spec.code Tryz.func35 rfl 83 rfl rfl [0] rfl fun w0 F0 S0 B0=>?_
 unfold im at H
 refine G (Wa 102 tk rfl rfl rfl (R 1 rfl (N (R 1 rfl (Wa 104 tk rfl rfl rfl (Ef 0 rfl (N (R 1 rfl ?_))))))))
 obtain ⟨x1,hx1,H⟩:=al H
 refine Cl [] (jT 0 rfl _ hx1) jU rfl p1 rfl (R 2 rfl (Ef 0 rfl (N (R 1 rfl ?_))))
 obtain ⟨x2,hx2,H⟩:=al H
 refine Cl [] (jT 0 rfl _ hx2) jU rfl p1 rfl (R 2 rfl (Ef 0 rfl (N (R 1 rfl ?_))))
 obtain ⟨x3,hx3,H⟩:=al H
 refine Cl [] (jT 0 rfl _ hx3) jU rfl p1 rfl (R 2 rfl (Ef 0 rfl (N (R 1 rfl ?_))))
 obtain ⟨x4,hx4,H⟩:=al H
 refine Cl [] (jT 0 rfl _ hx4) jU rfl p1 rfl (R 2 rfl (Ef 0 rfl (N (R 1 rfl ?_))))
 obtain ⟨x5,hx5,H⟩:=al H
 refine Cl [] (rU 0 rfl _ hx5) rV rfl p1 rfl (R 1 rfl (N (R 1 rfl ?_)))
 obtain ⟨x6,hx6,H⟩:=al H
 refine Cl [] (aZ 0 rfl _ hx6) ba rfl p1 rfl (R 1 rfl (NS (G (R 2 rfl (NQ (Wd rfl H (fun H=>?_) (fun H=>?_)))))))
 ·refine G (R 2 rfl (Ef 0 rfl (R 1 rfl (NQ (WC.nilF 102 4 6024 93 3 rfl (WC.row 6024 (([]:List ai).map aj) rfl rfl rfl (WC.nilF 102 5 6025 94 1 rfl (WC.row 6025 (([]:List (List (List ah))).map ab) rfl rfl rfl (WC.nilF 102 6 6026 98 3 rfl (WC.row 6026 (([]:List ax).map ak) rfl rfl rfl (WC.nilF 102 7 6027 55 3 rfl (WC.row 6027 (([]:List ay).map aB) rfl rfl rfl (WC.freezeT 6024 aj ([]:List ai) rfl rfl rfl rfl (WC.freezeT 6025 ab ([]:List (List (List ah))) rfl rfl rfl rfl (WC.freezeT 6026 ak ([]:List ax) rfl rfl rfl rfl (WC.freezeT 6027 aB ([]:List ay) rfl rfl rfl rfl (Wt (QT.r ?_))))))))))))))))))
  cases H
  exact Ends.autoC tk rfl rfl rfl p1
 refine Wk (Qn (Ws (G (R 1 rfl ?_))))
 obtain ⟨x8,hx8,H⟩:=al H
 refine Cl [] (Ag _ hx8) Af rfl tv rfl (R 4 rfl (Ef 0 rfl (R 1 rfl (N (R 2 rfl (NQ (Wd rfl H (fun H=>?_) (fun H=>?_))))))))
 ·refine G (R 2 rfl (Ef 0 rfl (R 1 rfl (NQ (WC.nilF 102 7 6027 55 3 rfl (WC.row 6027 (([]:List ay).map aB) rfl rfl rfl (WC.freezeT 6027 aB ([]:List ay) rfl rfl rfl rfl (Wt (QT.r ?_)))))))))
  cases H
  exact Ends.autoC tk rfl rfl rfl p1
 refine Wk (Qn (G (R 1 rfl ?_)))
 obtain ⟨x10,hx10,H⟩:=al H
 refine Cl [] (cw 0 rfl _ hx10) cx rfl p1 rfl (R 1 rfl (NS (G (R 1 rfl ?_))))
 obtain ⟨x11,hx11,H⟩:=al H
 refine Cl [] (aZ 0 rfl _ hx11) ba rfl p1 rfl (R 1 rfl (N (R 2 rfl (NQ (Wd rfl H (fun H=>?_) (fun H=>?_))))))
 ·refine G (R 2 rfl (Ef 0 rfl (R 1 rfl (NQ (WC.nilF 102 7 6027 55 3 rfl (WC.row 6027 (([]:List ay).map aB) rfl rfl rfl (WC.freezeT 6027 aB ([]:List ay) rfl rfl rfl rfl (Wt (QT.r ?_)))))))))
  cases H
  exact Ends.autoC tk rfl rfl rfl p1
 refine Wk (Qn (Ws (G (R 2 rfl (NQ (Wd rfl H (fun H=>?_) (fun H=>?_)))))))
 ·refine G (R 1 rfl (Ef 0 rfl (R 1 rfl (NQ (WC.nilF 102 7 6027 55 3 rfl (WC.row 6027 (([]:List ay).map aB) rfl rfl rfl (WC.freezeT 6027 aB ([]:List ay) rfl rfl rfl rfl (Wt (QT.r ?_)))))))))
  cases H
  exact Ends.autoC tk rfl rfl rfl p1
 refine Wk (Qn (Ws (G (R 2 rfl (NQ (Wb (WC.nilF 104 7 1070 55 3 rfl (Wl (ι:= {x:Nat×(Int×ByteArray×Int×Int×(List ay)) //dG x1 x2 x3 x4 x8 x10 x.1 x.2=some r}) (fun x=>[(0, .ptr 0 0),(2, .ptr 102 0),(4, .ptr 104 0),(57, .d (.int .u64 x10.1)),(58, .d (.int .u64 x.1.2.1))]) (fun x=>[(0, .box 131 [.d (.str x.1.2.2.1), .d (.int .i64 x.1.2.2.2.1), .d (.int .i64 x.1.2.2.2.2.1)]),(102, .box 31 [.d (.int .i64 0), .d (.int .i64 0), .d (.int .i64 0), .d (.int .i64 0), .d (.nils), .d (.nils), .d (.nils), .d (.nils)]),(104, .box 31 [.d (.int .i64 x1.1), .d (.int .i64 x2.1), .d (.int .i64 x3.1), .d (.int .i64 x4.1), .d (slT aj x8.1.Decls), .d (slT ab x8.1.Waits), .d (slT ak x8.1.Funcs), .own 1070]),(1070, .row 55 3 (x.1.2.2.2.2.2.map aB))]) (fun x=>x.1.1) ⟨(fuel,(0,x10.2.s,x10.2.at_,x10.2.err,([]:List ay))),H⟩ (Lm p5 p4) fun x=>?_))))))))
 obtain ⟨⟨k16,s15⟩,H⟩:=x
 rcases k16 with _ | k16
 ·exact aQ H
 rw [dG] at H
 refine G (R 1 rfl (NS (Wd rfl H (fun H=>?_) (fun H=>?_))))
 ·refine Wk (Qn (Ws (Wb (G (R 1 rfl ?_)))))
  obtain ⟨x18,hx18,H⟩:=al H
  refine Cl [] (sA 0 rfl _ hx18) sB rfl p1 rfl (R 3 rfl (Wa 109 tk rfl rfl rfl (Ef 0 rfl (R 1 rfl (NS (G (R 2 rfl (NQ (Wd rfl H (fun H=>?_) (fun H=>?_))))))))))
  ·refine G (WL.freezeT 1070 aB s15.2.2.2.2 rfl rfl rfl rfl (R 1 rfl (R 1 rfl (Ef 0 rfl (R 1 rfl (NQ (Wt (QT.r (QB.r (QT.r (QT.r (QB.r (QT.r ?_)))))))))))))
   cases H
   exact Ends.autoC tk rfl rfl rfl p1
  refine Wk (Qn (Wg (R 3 rfl (Ef 172 rfl (WL.freezeT 172 aB ([x18.1]:List ay) rfl rfl rfl rfl ?_)))))
  obtain ⟨g20,H⟩:=av H
  refine WL.appT aB s15.2.2.2.2 ([x18.1]:List ay) tk ek rfl rfl (fun _=>rfl) (fun _=>rfl) rfl rfl rfl rfl (cg g20) rfl rfl rfl rfl rfl ?_
  refine R 1 rfl (Ef 0 rfl (Wn (Qb (Qn ?_))))
  exact Wg (R 2 rfl (NQ (⟨⟨(k16,(IntKind.u64.wrap (s15.1+1),x18.2.2.s,x18.2.2.at_,x18.2.2.err,s15.2.2.2.2++([x18.1]:List ay))),H⟩,Z,Lm p5 p4⟩)))
 refine WC.exit (Qx (Qx (Qh (Qn ?_))))
 refine Ws (G (R 1 rfl ?_))
 obtain ⟨x21,hx21,H⟩:=al H
 refine Cl [] (da 0 rfl _ hx21) db rfl p1 rfl (R 1 rfl (NQ (Wd rfl H (fun H=>?_) (fun H=>?_))))
 ·refine G (WL.freezeT 1070 aB s15.2.2.2.2 rfl rfl rfl rfl (R 1 rfl (Ef 0 rfl (R 1 rfl (NQ (Wt (QT.r ?_)))))))
  cases H
  exact Ends.autoC tk rfl rfl rfl p1
 refine Wk (Qn (Ws ?_))
 obtain ⟨x28_2_1,hx28_2_1,H⟩:=al H
 refine WC.heldF [(2, .ptr 102 0),(3, .d (.int .i64 x28_2_1))] [(0, .box 131 [.d (.str s15.2.1), .d (.int .i64 s15.2.2.1), .d (.int .i64 s15.2.2.2.1)]),(102, .box 31 [.d (.int .i64 x1.1), .d (.int .i64 x2.1), .d (.int .i64 x3.1), .d (.int .i64 x4.1), .d (slT aj x8.1.Decls), .d (slT ab x8.1.Waits), .d (slT ak x8.1.Funcs), .d (slT aB s15.2.2.2.2)])] (fk (sf 0 (sf 1 (sf 2 (sf 3 (sT 4 sd))))) (sf 1 (fk (sf 0 (sf 2 (sf 3 (sT 4 sd)))) (sf 2 (sf 0 (sf 3 (sT 4 sd))))))) [0,102,104] [104,0] rfl (by kernel_rfl) rfl (by kernel_rfl) rfl rfl (fun _ h=>h) rfl rfl rfl (fun FK NK wK K=>?_) ?_
 ·refine WH.fork ?_ ?_
  ·exact WH.freezeT 1070 aB s15.2.2.2.2 rfl rfl rfl rfl (WH.val tk rfl rfl rfl rfl rfl tv rfl rfl (WH.val tk rfl rfl rfl rfl rfl tv rfl rfl (WH.call [] rfl (ei _ hx28_2_1) ej rfl rfl tv rfl rfl rfl rfl rfl (He 0 tk ek rfl rfl rfl rfl tv rfl rfl (Hr 1 tk rfl rfl rfl rfl tv (Hn rfl (Lw q2 p2)))))))
  ·refine WH.freezeT 1070 aB s15.2.2.2.2 rfl rfl rfl rfl (WH.val tk rfl rfl rfl rfl rfl tv rfl rfl (WH.fork ?_ ?_))
   ·exact WH.val tk rfl rfl rfl rfl rfl tv rfl rfl (WH.call [] rfl (ei _ hx28_2_1) ej rfl rfl tv rfl rfl rfl rfl rfl (He 0 tk ek rfl rfl rfl rfl tv rfl rfl (Hr 1 tk rfl rfl rfl rfl tv (Hn rfl (Lw q2 p2)))))
   ·exact WH.call [] rfl (ei _ hx28_2_1) ej rfl rfl tv rfl rfl rfl rfl rfl (WH.val tk rfl rfl rfl rfl rfl tv rfl rfl (He 0 tk ek rfl rfl rfl rfl tv rfl rfl (Hr 1 tk rfl rfl rfl rfl tv (Hn rfl (Lw q2 p2)))))
 ·refine Qn (Wt ?_)
  cases H
  exact Ends.autoC tk rfl rfl rfl p1
theorem uK (n0:Nat) (hn:cL [n0]=true) (a0:an) {r:aq×Int×an} (H:im a0=some r):LJ.Spec Tryz.prog 35 [.ptr n0 0] [(n0, .box 131 [.d (.str a0.s), .d (.int .i64 a0.at_), .d (.int .i64 a0.err)])] (.tup [.d (.agg [.int .i64 r.1.Config.Mode, .int .i64 r.1.Config.Workers, .int .i64 r.1.Config.Quantum, .int .i64 r.1.Config.Policy,slT aj r.1.Program.Decls,slT ab r.1.Program.Waits,slT ak r.1.Program.Funcs,slT aB r.1.Events]), .d (.int .i64 r.2.1)]) [(n0, .box 131 [.d (.str r.2.2.s), .d (.int .i64 r.2.2.at_), .d (.int .i64 r.2.2.err)])]:=
 Spec.names [n0] hn rfl rfl (uJ a0 H)
theorem uL:aE Tryz.prog 35 Tryz.f35:=⟨Tryz.func35,rfl,by kernel_rfl⟩
theorem pK (a0:ByteArray) {r:aq×Int} (H:fi a0=some r):LJ.Spec Tryz.prog 15 [.d (.str a0)] [] (.tup [.d (.agg [.int .i64 r.1.Config.Mode, .int .i64 r.1.Config.Workers, .int .i64 r.1.Config.Quantum, .int .i64 r.1.Config.Policy,slT aj r.1.Program.Decls,slT ab r.1.Program.Waits,slT ak r.1.Program.Funcs,slT aB r.1.Events]), .d (.int .i64 r.2)]) []:=by
 refine LJ.Spec.code Tryz.func15 rfl 27 rfl rfl [] rfl fun w0 F0 S0 B0=>?_
 unfold fi at H
 refine G (Wa 102 tk rfl rfl rfl (R 1 rfl (N (R 1 rfl ?_))))
 obtain ⟨x1,hx1,H⟩:=al H
 refine Cl [] (nc _ _ hx1) nf rfl tv rfl (R 5 rfl (NS (G (R 2 rfl (NQ (Wd rfl H (fun H=>?_) (fun H=>?_)))))))
 ·refine G (R 1 rfl (Ef 0 rfl (R 1 rfl (NQ (WC.nilF 102 4 6024 93 3 rfl (WC.row 6024 (([]:List ai).map aj) rfl rfl rfl (WC.nilF 102 5 6025 94 1 rfl (WC.row 6025 (([]:List (List (List ah))).map ab) rfl rfl rfl (WC.nilF 102 6 6026 98 3 rfl (WC.row 6026 (([]:List ax).map ak) rfl rfl rfl (WC.nilF 102 7 6027 55 3 rfl (WC.row 6027 (([]:List ay).map aB) rfl rfl rfl (WC.freezeT 6024 aj ([]:List ai) rfl rfl rfl rfl (WC.freezeT 6025 ab ([]:List (List (List ah))) rfl rfl rfl rfl (WC.freezeT 6026 ak ([]:List ax) rfl rfl rfl rfl (WC.freezeT 6027 aB ([]:List ay) rfl rfl rfl rfl (Wt (QT.r ?_))))))))))))))))))
  cases H
  exact Ends.autoC tk rfl rfl rfl tv
 refine Wk (Qn (G (R 1 rfl ?_)))
 obtain ⟨x3,hx3,H⟩:=al H
 refine Cl [2180] (iP 2180 rfl _ hx3) iQ rfl tv rfl ?_
 obtain ⟨x4,hx4,H⟩:=al H
 refine Cl [] (uK 2180 rfl _ hx4) uL rfl p1 rfl (R 3 rfl (Wa 106 tk rfl rfl rfl (Ef 0 rfl (R 1 rfl (NS (G (R 2 rfl (NQ (Wd rfl H (fun H=>?_) (fun H=>?_))))))))))
 ·refine G (R 2 rfl (Ef 0 rfl (R 1 rfl (NQ (WC.nilF 102 4 6024 93 3 rfl (WC.row 6024 (([]:List ai).map aj) rfl rfl rfl (WC.nilF 102 5 6025 94 1 rfl (WC.row 6025 (([]:List (List (List ah))).map ab) rfl rfl rfl (WC.nilF 102 6 6026 98 3 rfl (WC.row 6026 (([]:List ax).map ak) rfl rfl rfl (WC.nilF 102 7 6027 55 3 rfl (WC.row 6027 (([]:List ay).map aB) rfl rfl rfl (WC.freezeT 6024 aj ([]:List ai) rfl rfl rfl rfl (WC.freezeT 6025 ab ([]:List (List (List ah))) rfl rfl rfl rfl (WC.freezeT 6026 ak ([]:List ax) rfl rfl rfl rfl (WC.freezeT 6027 aB ([]:List ay) rfl rfl rfl rfl (Wt (QT.r ?_))))))))))))))))))
  cases H
  exact Ends.autoC tk rfl rfl rfl tv
 refine Wk (Qn (G (R 1 rfl (Ef 0 rfl (R 1 rfl (NQ (Wt ?_)))))))
 cases H
 exact Ends.autoC tk rfl rfl rfl tv
theorem pL:aE Tryz.prog 15 Tryz.f15:=⟨Tryz.func15,rfl,by kernel_rfl⟩
theorem wk (a0:List (List ah)) (a1:List (List ah)) {r:Bool} (H:ji a0 a1=some r):LJ.Spec Tryz.prog 73 [.d (slT aC a0), .d (slT aC a1)] [] (.d (.bool r)) []:=by
 refine LJ.Spec.code Tryz.func73 rfl 53 rfl rfl [] rfl fun w0 F0 S0 B0=>?_
 unfold ji at H
 refine G (R 1 rfl (NS (G (R 5 rfl (NQ (Wd rfl H (fun H=>?_) (fun H=>?_)))))))
 ·refine G (R 1 rfl (NQ (Wt (QT.r ?_))))
  cases H
  exact Ea rfl rfl rfl tv
 refine Wk (Qn (Ws (G (R 1 rfl (NQ (Wb (Wl (ι:= {x:Nat×Int //ja a0 a1 x.1 x.2=some r}) (fun x=>[(0, .d (slT aC a0)),(1, .d (slT aC a1)),(5, .d (.int .i64 x.1.2))]) (fun x=>[]) (fun x=>x.1.1) ⟨(fuel,0),H⟩ (Lm p3 tv) fun x=>?_)))))))
 obtain ⟨⟨k3,s2⟩,H⟩:=x
 rcases k3 with _ | k3
 ·exact aQ H
 rw [ja] at H
 refine Ws (G (R 4 rfl (NQ (Wd rfl H (fun H=>?_) (fun H=>?_)))))
 ·refine Wk (Qn ?_)
  obtain ⟨K5,hK5,H⟩:=cR H
  refine WC.cut (fun E m=>∃ s6:Unit,K5 s6=some r∧gY E m [(0, .d (slT aC a0)),(1, .d (slT aC a1)),(5, .d (.int .i64 s2))] []) ?_ ?_
  ·refine Wb (Ws (Ws (Hp (.one 0 true (.one 1 true (.one 2 true (.one 3 true (.one 4 true (.one 5 true (.one 6 true (.one 7 true (.one 8 true (.one 9 true (.one 10 true .done))))))))))) [] [] rfl (by kernel_rfl) rfl (by kernel_rfl) rfl rfl (fun _ h=>h) rfl rfl rfl (fun _ _ _ h=>h) fun FK NK wK K=>?_)))
   obtain ⟨g7,H⟩:=av H
   obtain ⟨g8,H⟩:=av H
   refine Hr 11 tk rfl rfl rfl rfl ⟨⟨(ao g7).1,(ao g7).2,rfl⟩,⟨(ao g8).1,(ao g8).2,rfl⟩,tv⟩ (WH.nil rfl (Qn (Wd rfl H (fun H=>?_) (fun H=>?_))))
   ·refine G (R 1 rfl (NQ (Wt (QT.r (QB.r (QT.r (QT.r (QB.r (QT.r ?_)))))))))
    cases H
    exact Ea rfl rfl rfl tv
   refine Wk (Qn (G (R 1 rfl (NQ (Wb (Wl (ι:= {x:Nat×Int //iy a0 a1 s2 K5 x.1 x.2=some r}) (fun x=>[(0, .d (slT aC a0)),(1, .d (slT aC a1)),(5, .d (.int .i64 s2)),(6, .d (.int .i64 x.1.2))]) (fun x=>[]) (fun x=>x.1.1) ⟨(fuel,0),H⟩ (Lm p4 tv) fun x=>?_))))))
   obtain ⟨⟨k11,s10⟩,H⟩:=x
   rcases k11 with _ | k11
   ·exact aQ H
   rw [iy] at H
   refine Ws (G ?_)
   obtain ⟨g12,H⟩:=av H
   refine RS 7 rfl ⟨⟨(ao g12).1,(ao g12).2,rfl⟩,tv⟩ (NQ (Wd rfl H (fun H=>?_) (fun H=>?_)))
   ·refine Wk (Qn (Ws (Wb (Ws (Hp (.one 0 true (.one 1 true (.one 2 true (.one 3 true (.one 4 true (.one 5 true (.one 6 true (.one 7 true (.one 8 true (.one 9 true (.one 10 true (.one 11 true (.one 12 true (.one 13 true (.one 14 true .done))))))))))))))) [] [] rfl (by kernel_rfl) rfl (by kernel_rfl) rfl rfl (fun _ h=>h) rfl rfl rfl (fun _ _ _ h=>h) fun FK NK wK K=>?_)))))
    obtain ⟨g14,H⟩:=av H
    obtain ⟨g15,H⟩:=av H
    obtain ⟨g16,H⟩:=av H
    obtain ⟨g17,H⟩:=av H
    refine Hr 14 tk rfl rfl rfl rfl ⟨⟨(ao g14).1,(ao g14).2,rfl⟩,⟨(ao g15).1,(ao g15).2,rfl⟩,⟨(ao g16).1,(ao g16).2,rfl⟩,⟨(ao g17).1,(ao g17).2,rfl⟩,tv⟩ (WH.yv rfl (LJ.Y.structEq .neq (.inr rfl) rfl rfl rfl (by kernel_rfl) rfl) rfl rfl rfl (WH.nil rfl (Qn (Wd rfl H (fun H=>?_) (fun H=>?_)))))
    ·refine G (R 1 rfl (NQ (Wt (QB.r (QT.r (QT.r (QB.r (QB.r (QT.r (QT.r (QB.r (QT.r ?_))))))))))))
     cases H
     exact Ea rfl rfl rfl tv
    refine Wk (Qb (Qn ?_))
    exact Wg (R 3 rfl (NQ (⟨⟨(k11,IntKind.i64.wrap (s10+1)),H⟩,Z,Lm p4 tv⟩)))
   refine WC.exit (Qx (Qx (Qh (Qb (Qn ?_)))))
   exact ⟨Unit.unit,H,Lw q3 tv⟩
  ·rintro E m ⟨s6,H,hl⟩
   refine WC.lessW hl ?_
   replace H:=(hK5 _).symm.trans H
   try dsimp only at H
   exact Wg (R 3 rfl (NQ (⟨⟨(k3,IntKind.i64.wrap (s2+1)),H⟩,Z,Lm p3 tv⟩)))
 refine WC.exit (Qx (Qx (Qh (Qn ?_))))
 refine G (R 1 rfl (NQ (Wt ?_)))
 cases H
 exact Ea rfl rfl rfl tv
theorem wm:aE Tryz.prog 73 Tryz.f73:=⟨Tryz.func73,rfl,by kernel_rfl⟩
theorem wq (a0:aa) (a1:aa) {r:Bool} (H:iq a0 a1=some r):LJ.Spec Tryz.prog 43 [.d (.agg [slT aj a0.Decls,slT ab a0.Waits,slT ak a0.Funcs]), .d (.agg [slT aj a1.Decls,slT ab a1.Waits,slT ak a1.Funcs])] [] (.d (.bool r)) []:=by
 refine LJ.Spec.code Tryz.func43 rfl 129 rfl rfl [] rfl fun w0 F0 S0 B0=>?_
 unfold iq at H
 refine G (Ef 102 rfl (Ef 103 rfl (R 1 rfl (NS (G (R 8 rfl (Wx 7 7 false tk sg0 rfl rfl (fun _=>tv) (RS 2 rfl ⟨by first | exact id | exact fun h=>by rw [h];rfl | simp_all,tv⟩ (Wx 7 16 false tk sg0 rfl rfl (fun _=>tv) (RS 1 rfl ⟨by first | exact id | exact fun h=>by rw [h];rfl | simp_all,tv⟩ (NQ (Wd rfl H (fun H=>?_) (fun H=>?_)))))))))))))
 ·refine G (R 1 rfl (NQ (Wt (QT.r ?_))))
  cases H
  exact Ea rfl rfl rfl tv
 refine Wk (Qn (Ws (G (R 1 rfl (NQ (Wb (Wl (ι:= {x:Nat×Int //eS a0 a1 x.1 x.2=some r}) (fun x=>[(2, .ptr 102 0),(3, .ptr 103 0),(5, .d (.int .i64 x.1.2))]) (fun x=>[(102, .box 28 [.d (slT aj a0.Decls), .d (slT ab a0.Waits), .d (slT ak a0.Funcs)]),(103, .box 28 [.d (slT aj a1.Decls), .d (slT ab a1.Waits), .d (slT ak a1.Funcs)])]) (fun x=>x.1.1) ⟨(fuel,0),H⟩ (Lm p3 p2) fun x=>?_)))))))
 obtain ⟨⟨k3,s2⟩,H⟩:=x
 rcases k3 with _ | k3
 ·exact aQ H
 rw [eS] at H
 refine Ws (G (R 5 rfl (NQ (Wd rfl H (fun H=>?_) (fun H=>?_)))))
 ·refine Wk (Qn (Ws (Wb (Ws (Hp (.one 0 true (.one 1 true (.one 2 true (.one 3 true (.one 4 true (.one 5 true (.one 6 true (.one 7 true (.one 8 true (.one 9 true (.one 10 true .done))))))))))) [102,103] [102,103] rfl (by kernel_rfl) rfl (by kernel_rfl) rfl rfl (fun _ h=>h) rfl rfl rfl (fun _ _ _ h=>h) fun FK NK wK K=>?_)))))
  obtain ⟨g5,H⟩:=av H
  obtain ⟨g6,H⟩:=av H
  refine Hr 10 tk rfl rfl rfl rfl ⟨⟨(ao g5).1,(ao g5).2,rfl⟩,⟨(ao g6).1,(ao g6).2,rfl⟩,tv⟩ (WH.yv rfl (LJ.Y.structEq .neq (.inr rfl) rfl rfl rfl (by kernel_rfl) rfl) rfl rfl rfl (WH.nil rfl (Qn (Wd rfl H (fun H=>?_) (fun H=>?_)))))
  ·refine G (R 1 rfl (NQ (Wt (QB.r (QT.r (QT.r (QB.r (QT.r ?_))))))))
   cases H
   exact Ea rfl rfl rfl tv
  refine Wk (Qb (Qn ?_))
  exact Wg (R 3 rfl (NQ (⟨⟨(k3,IntKind.i64.wrap (s2+1)),H⟩,Z,Lm p3 p2⟩)))
 refine WC.exit (Qx (Qx (Qh (Qn ?_))))
 refine Ws (G (R 1 rfl (NQ (Wb (Wl (ι:= {x:Nat×Int //eR a0 a1 x.1 x.2=some r}) (fun x=>[(2, .ptr 102 0),(3, .ptr 103 0),(6, .d (.int .i64 x.1.2))]) (fun x=>[(102, .box 28 [.d (slT aj a0.Decls), .d (slT ab a0.Waits), .d (slT ak a0.Funcs)]),(103, .box 28 [.d (slT aj a1.Decls), .d (slT ab a1.Waits), .d (slT ak a1.Funcs)])]) (fun x=>x.1.1) ⟨(fuel,0),H⟩ (Lm p3 p2) fun x=>?_)))))
 obtain ⟨⟨k9,s8⟩,H⟩:=x
 rcases k9 with _ | k9
 ·exact aQ H
 rw [eR] at H
 refine Ws (G (R 5 rfl (NQ (Wd rfl H (fun H=>?_) (fun H=>?_)))))
 ·refine Wk (Qn (Ws (Wb (Ws (Hp (.one 0 true (.one 1 true (.one 2 true (.one 3 true (.one 4 true (.one 5 true (.one 6 true (.one 7 true (.one 8 true (.one 9 true (.one 10 false (.one 11 true .done)))))))))))) [102,103] [102,103] rfl (by kernel_rfl) rfl (by kernel_rfl) rfl rfl (fun _ h=>h) rfl rfl rfl (fun _ _ _ h=>h) fun FK NK wK K=>?_)))))
  obtain ⟨g11,H⟩:=av H
  obtain ⟨g12,H⟩:=av H
  refine Hr 10 tk rfl rfl rfl rfl ⟨⟨(ao g11).1,(ao g11).2,rfl⟩,⟨(ao g12).1,(ao g12).2,rfl⟩,tv⟩ ?_
  obtain ⟨x13,hx13,H⟩:=al H
  refine WH.call [] rfl (wk _ _ hx13) wm rfl rfl tv rfl rfl rfl rfl rfl (Hr 1 tk rfl rfl rfl rfl tv (WH.nil rfl (Qn (Wd rfl H (fun H=>?_) (fun H=>?_)))))
  ·refine G (R 1 rfl (NQ (Wt (QB.r (QT.r (QT.r (QB.r (QT.r ?_))))))))
   cases H
   exact Ea rfl rfl rfl tv
  refine Wk (Qb (Qn ?_))
  exact Wg (R 3 rfl (NQ (⟨⟨(k9,IntKind.i64.wrap (s8+1)),H⟩,Z,Lm p3 p2⟩)))
 refine WC.exit (Qx (Qx (Qh (Qn ?_))))
 refine Ws (G (R 1 rfl (NQ (Wb (Wl (ι:= {x:Nat×Int //dA a0 a1 x.1 x.2=some r}) (fun x=>[(2, .ptr 102 0),(3, .ptr 103 0),(7, .d (.int .i64 x.1.2))]) (fun x=>[(102, .box 28 [.d (slT aj a0.Decls), .d (slT ab a0.Waits), .d (slT ak a0.Funcs)]),(103, .box 28 [.d (slT aj a1.Decls), .d (slT ab a1.Waits), .d (slT ak a1.Funcs)])]) (fun x=>x.1.1) ⟨(fuel,0),H⟩ (Lm p3 p2) fun x=>?_)))))
 obtain ⟨⟨k16,s15⟩,H⟩:=x
 rcases k16 with _ | k16
 ·exact aQ H
 rw [dA] at H
 refine Ws (G (R 5 rfl (NQ (Wd rfl H (fun H=>?_) (fun H=>?_)))))
 ·refine Wk (Qn ?_)
  obtain ⟨K18,hK18,H⟩:=cR H
  refine WC.cut (fun E m=>∃ s19:Unit,K18 s19=some r∧gY E m [(2, .ptr 102 0),(3, .ptr 103 0),(7, .d (.int .i64 s15))] [(102, .box 28 [.d (slT aj a0.Decls), .d (slT ab a0.Waits), .d (slT ak a0.Funcs)]),(103, .box 28 [.d (slT aj a1.Decls), .d (slT ab a1.Waits), .d (slT ak a1.Funcs)])]) ?_ ?_
  ·refine Wb (Ws ?_)
   obtain ⟨g16_3_1,H⟩:=av H
   obtain ⟨g16_8_1,H⟩:=av H
   refine WC.heldF [(2, .ptr 102 0),(3, .ptr 103 0),(7, .d (.int .i64 s15)),(8, .ptr 108 0),(9, .ptr 109 0)] [(102, .box 28 [.d (slT aj a0.Decls), .d (slT ab a0.Waits), .d (slT ak a0.Funcs)]),(103, .box 28 [.d (slT aj a1.Decls), .d (slT ab a1.Waits), .d (slT ak a1.Funcs)]),(108, .box 98 [.d (.int .i64 ((a0.Funcs.getD s15.toNat default).Args)), .d (.int .i64 ((a0.Funcs.getD s15.toNat default).Locals)), .d (slT aF ((a0.Funcs.getD s15.toNat default).Code))]),(109, .box 98 [.d (.int .i64 ((a1.Funcs.getD s15.toNat default).Args)), .d (.int .i64 ((a1.Funcs.getD s15.toNat default).Locals)), .d (slT aF ((a1.Funcs.getD s15.toNat default).Code))])] (sT 0 (sT 1 (sT 2 (sT 3 (sT 4 (sT 5 (sT 6 (sT 7 (sT 8 (sT 9 (fk (sf 10 (sf 11 (sf 12 (sf 13 sd)))) (sf 11 (sf 10 (sf 12 (sf 13 sd))))))))))))))) [102,103] [102,103] rfl (by kernel_rfl) rfl (by kernel_rfl) rfl rfl (fun _ h=>h) rfl rfl rfl (fun FK NK wK K=>?_) ?_
   ·refine Hr 10 tk rfl rfl rfl rfl ⟨⟨(ao g16_3_1).1,(ao g16_3_1).2,rfl⟩,⟨(ao g16_8_1).1,(ao g16_8_1).2,rfl⟩,tv⟩ (WH.fork ?_ ?_)
    ·exact WH.alloc 108 tk rfl rfl rfl rfl rfl rfl (WH.alloc 109 tk rfl rfl rfl rfl rfl rfl (He 0 tk ek rfl rfl rfl rfl tv rfl rfl (He 0 tk ek rfl rfl rfl rfl tv rfl rfl (Hn rfl (Lw q5 p4)))))
    ·exact WH.alloc 109 tk rfl rfl rfl rfl rfl rfl (WH.alloc 108 tk rfl rfl rfl rfl rfl rfl (He 0 tk ek rfl rfl rfl rfl tv rfl rfl (He 0 tk ek rfl rfl rfl rfl tv rfl rfl (Hn rfl (Lw q5 p4)))))
   ·refine Qn (Ws (G (R 6 rfl (Wx 5 5 false tk sg0 rfl rfl (fun _=>tv) (RS 2 rfl ⟨by first | exact id | exact fun h=>by rw [h];rfl | simp_all,tv⟩ (Wx 7 12 false tk sg0 rfl rfl (fun _=>tv) (RS 1 rfl ⟨by first | exact id | exact fun h=>by rw [h];rfl | simp_all,tv⟩ (NQ (Wd rfl H (fun H=>?_) (fun H=>?_))))))))))
    ·refine G (R 1 rfl (NQ (Wt (QT.r (QB.r (QT.r (QT.r (QB.r (QT.r ?_)))))))))
     cases H
     exact Ea rfl rfl rfl tv
    refine Wk (Qn (G (R 1 rfl (NQ (Wb (Wl (ι:= {x:Nat×Int //eg a0 a1 s15 K18 x.1 x.2=some r}) (fun x=>[(2, .ptr 102 0),(3, .ptr 103 0),(7, .d (.int .i64 s15)),(8, .ptr 108 0),(9, .ptr 109 0),(10, .d (.int .i64 x.1.2))]) (fun x=>[(102, .box 28 [.d (slT aj a0.Decls), .d (slT ab a0.Waits), .d (slT ak a0.Funcs)]),(103, .box 28 [.d (slT aj a1.Decls), .d (slT ab a1.Waits), .d (slT ak a1.Funcs)]),(108, .box 98 [.d (.int .i64 ((a0.Funcs.getD s15.toNat default).Args)), .d (.int .i64 ((a0.Funcs.getD s15.toNat default).Locals)), .d (slT aF ((a0.Funcs.getD s15.toNat default).Code))]),(109, .box 98 [.d (.int .i64 ((a1.Funcs.getD s15.toNat default).Args)), .d (.int .i64 ((a1.Funcs.getD s15.toNat default).Locals)), .d (slT aF ((a1.Funcs.getD s15.toNat default).Code))])]) (fun x=>x.1.1) ⟨(fuel,0),H⟩ (Lm p6 p4) fun x=>?_))))))
    obtain ⟨⟨k22,s21⟩,H⟩:=x
    rcases k22 with _ | k22
    ·exact aQ H
    rw [eg] at H
    refine Ws (G (R 5 rfl (NQ (Wd rfl H (fun H=>?_) (fun H=>?_)))))
    ·refine Wk (Qn (Ws (Wb (Ws (Hp (.one 0 true (.one 1 true (.one 2 true (.one 3 true (.one 4 true (.one 5 true (.one 6 true (.one 7 true (.one 8 true (.one 9 true (.one 10 true .done))))))))))) [102,103,108,109] [102,103,108,109] rfl (by kernel_rfl) rfl (by kernel_rfl) rfl rfl (fun _ h=>h) rfl rfl rfl (fun _ _ _ h=>h) fun FK NK wK K=>?_)))))
     obtain ⟨g24,H⟩:=av H
     obtain ⟨g25,H⟩:=av H
     refine Hr 10 tk rfl rfl rfl rfl ⟨⟨(ao g24).1,(ao g24).2,rfl⟩,⟨(ao g25).1,(ao g25).2,rfl⟩,tv⟩ (WH.yv rfl (LJ.Y.structEq .neq (.inr rfl) rfl rfl rfl (by kernel_rfl) rfl) rfl rfl rfl (WH.nil rfl (Qn (Wd rfl H (fun H=>?_) (fun H=>?_)))))
     ·refine G (R 1 rfl (NQ (Wt (QB.r (QT.r (QT.r (QB.r (QB.r (QT.r (QT.r (QB.r (QT.r ?_))))))))))))
      cases H
      exact Ea rfl rfl rfl tv
     refine Wk (Qb (Qn ?_))
     exact Wg (R 3 rfl (NQ (⟨⟨(k22,IntKind.i64.wrap (s21+1)),H⟩,Z,Lm p6 p4⟩)))
    refine WC.exit (Qx (Qx (Qh (Qb (Qn ?_)))))
    exact ⟨Unit.unit,H,Lw q3 p2⟩
  ·rintro E m ⟨s19,H,hl⟩
   refine WC.lessW hl ?_
   replace H:=(hK18 _).symm.trans H
   try dsimp only at H
   exact Wg (R 3 rfl (NQ (⟨⟨(k16,IntKind.i64.wrap (s15+1)),H⟩,Z,Lm p3 p2⟩)))
 refine WC.exit (Qx (Qx (Qh (Qn ?_))))
 refine G (R 1 rfl (NQ (Wt ?_)))
 cases H
 exact Ea rfl rfl rfl tv
theorem wt:aE Tryz.prog 43 Tryz.f43:=⟨Tryz.func43,rfl,by kernel_rfl⟩
theorem pM (a0:aq) (a1:aq) {r:Bool} (H:fP a0 a1=some r):LJ.Spec Tryz.prog 17 [.d (.agg [.int .i64 a0.Config.Mode, .int .i64 a0.Config.Workers, .int .i64 a0.Config.Quantum, .int .i64 a0.Config.Policy,slT aj a0.Program.Decls,slT ab a0.Program.Waits,slT ak a0.Program.Funcs,slT aB a0.Events]), .d (.agg [.int .i64 a1.Config.Mode, .int .i64 a1.Config.Workers, .int .i64 a1.Config.Quantum, .int .i64 a1.Config.Policy,slT aj a1.Program.Decls,slT ab a1.Program.Waits,slT ak a1.Program.Funcs,slT aB a1.Events])] [] (.d (.bool r)) []:=by
 refine LJ.Spec.code Tryz.func17 rfl 46 rfl rfl [] rfl fun w0 F0 S0 B0=>?_
 unfold fP at H
 refine G (Ef 102 rfl (Ef 103 rfl (R 1 rfl (NS (G (R 4 rfl (WL.yv (LJ.Y.structEq .neq (.inr rfl) rfl rfl rfl (by kernel_rfl) rfl) rfl rfl rfl (R 1 rfl ?_))))))))
 obtain ⟨x1,hx1,H⟩:=al H
 refine Wx 6 5 false tk [PSig.at' wt ((!(!((iEq a0.Config.Mode a1.Config.Mode)&&((iEq a0.Config.Workers a1.Config.Workers)&&((iEq a0.Config.Quantum a1.Config.Quantum)&&((iEq a0.Config.Policy a1.Config.Policy)&&true))))))=true) rfl (fun hb=>wq _ _ (of_t hx1 hb))] rfl rfl (fun hb=>⟨⟨hb,rfl⟩,tv⟩) (RS 2 rfl ⟨by first | exact id | exact fun h=>by rw [h];rfl | simp_all,tv⟩ (Wx 7 13 false tk sg0 rfl rfl (fun _=>tv) (RS 1 rfl ⟨by first | exact id | exact fun h=>by rw [h];rfl | simp_all,tv⟩ (NQ (Wd rfl H (fun H=>?_) (fun H=>?_))))))
 ·refine G (R 1 rfl (NQ (Wt (QT.r ?_))))
  cases H
  exact Ea rfl rfl rfl tv
 refine Wk (Qn (Ws (G (R 1 rfl (NQ (Wb (Wl (ι:= {x:Nat×Int //eT a0 a1 x.1 x.2=some r}) (fun x=>[(2, .ptr 102 0),(3, .ptr 103 0),(5, .d (.int .i64 x.1.2))]) (fun x=>[(102, .box 31 [.d (.int .i64 a0.Config.Mode), .d (.int .i64 a0.Config.Workers), .d (.int .i64 a0.Config.Quantum), .d (.int .i64 a0.Config.Policy), .d (slT aj a0.Program.Decls), .d (slT ab a0.Program.Waits), .d (slT ak a0.Program.Funcs), .d (slT aB a0.Events)]),(103, .box 31 [.d (.int .i64 a1.Config.Mode), .d (.int .i64 a1.Config.Workers), .d (.int .i64 a1.Config.Quantum), .d (.int .i64 a1.Config.Policy), .d (slT aj a1.Program.Decls), .d (slT ab a1.Program.Waits), .d (slT ak a1.Program.Funcs), .d (slT aB a1.Events)])]) (fun x=>x.1.1) ⟨(fuel,0),H⟩ (Lm p3 p2) fun x=>?_)))))))
 obtain ⟨⟨k4,s3⟩,H⟩:=x
 rcases k4 with _ | k4
 ·exact aQ H
 rw [eT] at H
 refine Ws (G (R 5 rfl (NQ (Wd rfl H (fun H=>?_) (fun H=>?_)))))
 ·refine Wk (Qn (Ws (Wb (Ws (Hp (.one 0 true (.one 1 true (.one 2 true (.one 3 true (.one 4 true (.one 5 true (.one 6 true (.one 7 true (.one 8 true (.one 9 true (.one 10 true .done))))))))))) [102,103] [102,103] rfl (by kernel_rfl) rfl (by kernel_rfl) rfl rfl (fun _ h=>h) rfl rfl rfl (fun _ _ _ h=>h) fun FK NK wK K=>?_)))))
  obtain ⟨g6,H⟩:=av H
  obtain ⟨g7,H⟩:=av H
  refine Hr 10 tk rfl rfl rfl rfl ⟨⟨(ao g6).1,(ao g6).2,rfl⟩,⟨(ao g7).1,(ao g7).2,rfl⟩,tv⟩ (WH.yv rfl (LJ.Y.structEq .neq (.inr rfl) rfl rfl rfl (by kernel_rfl) rfl) rfl rfl rfl (WH.nil rfl (Qn (Wd rfl H (fun H=>?_) (fun H=>?_)))))
  ·refine G (R 1 rfl (NQ (Wt (QB.r (QT.r (QT.r (QB.r (QT.r ?_))))))))
   cases H
   exact Ea rfl rfl rfl tv
  refine Wk (Qb (Qn ?_))
  exact Wg (R 3 rfl (NQ (⟨⟨(k4,IntKind.i64.wrap (s3+1)),H⟩,Z,Lm p3 p2⟩)))
 refine WC.exit (Qx (Qx (Qh (Qn ?_))))
 refine G (R 1 rfl (NQ (Wt ?_)))
 cases H
 exact Ea rfl rfl rfl tv
theorem pN:aE Tryz.prog 17 Tryz.f17:=⟨Tryz.func17,rfl,by kernel_rfl⟩
theorem kU {r:Bool} (H:eU=some r):LJ.Spec Tryz.prog 14 [] [] (.d (.bool r)) []:=by
 refine LJ.Spec.code Tryz.func14 rfl 35 rfl rfl [] rfl fun w0 F0 S0 B0=>?_
 unfold eU at H
 refine G (R 1 rfl (NS (Wg ?_)))
 obtain ⟨x1,hx1,H⟩:=al H
 refine Cl [] (oJ hx1) oK rfl tv rfl ?_
 obtain ⟨x2,hx2,H⟩:=al H
 refine Cl [] (l8 _ hx2) l9 rfl tv rfl (R 5 rfl (N (R 1 rfl ?_)))
 obtain ⟨x3,hx3,H⟩:=al H
 refine Cl [] (pK _ hx3) pL rfl tv rfl (R 3 rfl (Wa 103 tk rfl rfl rfl (Ef 0 rfl (R 1 rfl (NS (Hp (.one 0 true (.one 1 true (.one 2 true (.one 3 true (.one 4 true (.one 5 true (.one 6 true (.one 7 true (.one 8 true (.one 9 true (.one 10 true (.one 11 true (.one 12 false (.one 13 false (.one 14 true (.one 15 true (.one 16 true (.one 17 false (.one 18 true (.one 19 true (.one 20 true .done))))))))))))))))))))) [103] [103] rfl (by kernel_rfl) rfl (by kernel_rfl) rfl rfl (fun _ h=>h) rfl rfl rfl (fun _ _ _ h=>h) fun FK NK wK K=>(Hr 3 tk rfl rfl rfl rfl tv (WH.sect 2 2 true tk rfl rfl rfl rfl (fun _=>tv) (Hr 2 tk rfl rfl rfl rfl ⟨by first | exact id | exact fun h=>by rw [h];rfl | simp_all,tv⟩ (WH.sect 2 6 true tk rfl rfl rfl rfl (fun _=>tv) (Hr 2 tk rfl rfl rfl rfl ⟨by first | exact id | exact fun h=>by rw [h];rfl | simp_all,tv⟩ ?_)))))))))))
 refine WH.split (g:=25) rfl (fun h4=>?_) (fun h4=>?_)
 ·replace H:=of_t H h4
  refine WH.grun 1 10 true 25 tk rfl rfl rfl rfl rfl rfl tv ?_
  obtain ⟨x5,hx5,H⟩:=al H
  refine WH.gcall [] rfl (oJ hx5) oK rfl rfl tv rfl rfl rfl rfl rfl rfl rfl rfl ?_
  obtain ⟨x6,hx6,H⟩:=al H
  refine WH.gcall [] rfl (pM _ _ hx6) pN rfl rfl tv rfl rfl rfl rfl rfl rfl rfl rfl (WH.pick1 rfl rfl rfl rfl rfl rfl rfl (Hr 1 tk rfl rfl rfl rfl tv (WH.split (g:=30) rfl (fun h7=>?_) (fun h7=>?_))))
  ·replace H:=of_t H h7
   refine WH.grun 1 15 true 30 tk rfl rfl rfl rfl rfl rfl tv (WH.le 31 (.agg [.int .i64 0, .int .i64 0, .int .i64 0, .int .i64 0,slT aj [],slT ab [],slT ak [],slT aB []]) rfl (Le.agg (.cons .rfl' (.cons .rfl' (.cons .rfl' (.cons .rfl' (.cons (Le.nilT aj) (.cons (Le.nilT ab) (.cons (Le.nilT ak) (.cons (Le.nilT aB) .nil))))))))) ?_)
   obtain ⟨x8,hx8,H⟩:=al H
   refine WH.gcall [] rfl (ei _ hx8) ej rfl rfl tv rfl rfl rfl rfl rfl rfl rfl rfl (WH.grun 1 15 true 30 tk rfl rfl rfl rfl rfl rfl tv (WH.pick1 rfl rfl rfl rfl rfl rfl rfl (Hr 1 tk rfl rfl rfl rfl tv (WH.nil rfl (Qn (Wt ?_))))))
   cases H
   exact Ea rfl rfl rfl tv
  ·replace H:=of_f H h7
   refine Hg rfl rfl rfl rfl rfl rfl rfl (Hg rfl rfl rfl rfl rfl rfl rfl (Hg rfl rfl rfl rfl rfl rfl rfl (WH.pick1 rfl rfl rfl rfl rfl rfl rfl (Hr 1 tk rfl rfl rfl rfl tv (WH.nil rfl (Qn (Wt ?_)))))))
   cases H
   exact Ea rfl rfl rfl tv
 ·replace H:=of_f H h4
  refine Hg rfl rfl rfl rfl rfl rfl rfl (Hg rfl rfl rfl rfl rfl rfl rfl (Hg rfl rfl rfl rfl rfl rfl rfl (WH.pick1 rfl rfl rfl rfl rfl rfl rfl (Hr 1 tk rfl rfl rfl rfl tv (Hg rfl rfl rfl rfl rfl rfl rfl (Hg rfl rfl rfl rfl rfl rfl rfl (Hg rfl rfl rfl rfl rfl rfl rfl (WH.pick1 rfl rfl rfl rfl rfl rfl rfl (Hr 1 tk rfl rfl rfl rfl tv (WH.nil rfl (Qn (Wt ?_))))))))))))
  cases H
  exact Ea rfl rfl rfl tv
theorem kV:aE Tryz.prog 14 Tryz.f14:=⟨Tryz.func14,rfl,by kernel_rfl⟩
theorem mH (a0:aq) {r:Bool} (H:ft a0=some r):LJ.Spec Tryz.prog 3 [.d (.agg [.int .i64 a0.Config.Mode, .int .i64 a0.Config.Workers, .int .i64 a0.Config.Quantum, .int .i64 a0.Config.Policy,slT aj a0.Program.Decls,slT ab a0.Program.Waits,slT ak a0.Program.Funcs,slT aB a0.Events])] [] (.d (.bool r)) []:=by
 refine LJ.Spec.code Tryz.func3 rfl 54 rfl rfl [] rfl fun w0 F0 S0 B0=>?_
 unfold ft at H
 refine G (Ef 101 rfl (R 1 rfl (N (R 1 rfl ?_))))
 obtain ⟨x1,hx1,H⟩:=al H
 refine Cl [] (jx _ hx1) jy rfl tv rfl (Ef 0 rfl (N (R 1 rfl ?_)))
 obtain ⟨x2,hx2,H⟩:=al H
 refine Cl [] (uH _ hx2) uI rfl tv rfl (R 1 rfl (N (R 1 rfl ?_)))
 obtain ⟨x3,hx3,H⟩:=al H
 refine Cl [] (jx _ hx3) jy rfl tv rfl ?_
 obtain ⟨x4,hx4,H⟩:=al H
 refine Cl [] (l8 _ hx4) l9 rfl tv rfl (R 5 rfl (NS (Ws (Hp (.one 0 true (.one 3 true (.one 1 false (.one 2 false (.one 4 true (.one 5 true (.one 6 true (.one 7 true (.one 8 true (.one 9 true (.one 10 true (.one 11 true (.one 12 true (.one 14 true (.one 15 true (.one 13 false (.one 16 false (.one 17 true (.one 18 true .done))))))))))))))))))) [101] [101] rfl (by kernel_rfl) rfl (by kernel_rfl) rfl rfl (fun _ h=>h) rfl rfl rfl (fun _ _ _ h=>h) fun FK NK wK K=>(Hr 2 tk rfl rfl rfl rfl tv ?_)))))
 obtain ⟨x5,hx5,H⟩:=al H
 refine WH.call [] rfl (jx _ hx5) jy rfl rfl tv rfl rfl rfl rfl rfl ?_
 obtain ⟨x6,hx6,H⟩:=al H
 refine WH.call [] rfl (ei _ hx6) ej rfl rfl tv rfl rfl rfl rfl rfl (Hr 2 tk rfl rfl rfl rfl tv (WH.sect 3 5 false tk rfl rfl rfl rfl (fun _=>tv) (Hr 2 tk rfl rfl rfl rfl ⟨by first | exact id | exact fun h=>by rw [h];rfl | simp_all,tv⟩ (WH.split (g:=26) rfl (fun h7=>?_) (fun h7=>?_)))))
 ·replace H:=of_t H h7
  refine Hg rfl rfl rfl rfl rfl rfl rfl (Hg rfl rfl rfl rfl rfl rfl rfl (Hg rfl rfl rfl rfl rfl rfl rfl (Hg rfl rfl rfl rfl rfl rfl rfl (Hg rfl rfl rfl rfl rfl rfl rfl (Hg rfl rfl rfl rfl rfl rfl rfl (Hg rfl rfl rfl rfl rfl rfl rfl (WH.pick1 rfl rfl rfl rfl rfl rfl rfl (WH.nil rfl (Qn (Wc rfl (fun h=>?_) (fun h=>absurd h (by decide))))))))))))
  refine G (R 1 rfl (NQ (Wt (QT.r ?_))))
  cases H
  exact Ea rfl rfl rfl tv
 ·replace H:=of_f H h7
  refine WH.grun 4 10 false 26 tk rfl rfl rfl rfl rfl rfl tv ?_
  obtain ⟨x8,hx8,H⟩:=al H
  refine WH.gcall [] rfl (lS _ hx8) lU rfl rfl tv rfl rfl rfl rfl rfl rfl rfl rfl ?_
  obtain ⟨x9,hx9,H⟩:=al H
  refine WH.gcall [] rfl (mO _ hx9) mP rfl rfl tv rfl rfl rfl rfl rfl rfl rfl rfl (WH.grun 1 10 false 26 tk rfl rfl rfl rfl rfl rfl tv (WH.pick1 rfl rfl rfl rfl rfl rfl rfl (WH.nil rfl (Qn (Wd rfl H (fun H=>?_) (fun H=>?_))))))
  ·refine G (R 1 rfl (NQ (Wt (QT.r ?_))))
   cases H
   exact Ea rfl rfl rfl tv
  refine Wk (Qn (G (R 3 rfl (Wx 2 2 true tk sg0 rfl rfl (fun _=>tv) (RS 2 rfl ⟨by first | exact id | exact fun h=>by rw [h];rfl | simp_all,tv⟩ (Wx 3 6 false tk sg0 rfl rfl (fun _=>tv) ?_))))))
  obtain ⟨x11,hx11,H⟩:=al H
  refine Wx 4 9 true tk [PSig.at' xR (((!((iNe x2 0)&&(sEq x4.1 ByteArray.empty)))&&(iEq x2 0))=true) rfl (fun hb=>xQ _ (of_t hx11 hb))] rfl rfl (fun hb=>⟨⟨hb,rfl⟩,tv⟩) (Wx 1 6 false tk sg0 rfl rfl (fun hb=>⟨by first | exact id | exact ⟨hb,fun h=>by rw [hb,h];rfl⟩ | exact ⟨hb,id⟩ | exact fun h=>by rw [hb,h];rfl | exact fun h=>by rw [h];rfl | simp_all,tv⟩) (RS 2 rfl ⟨by first | exact id | exact fun h=>by rw [h];rfl | simp_all,tv⟩ ?_))
  obtain ⟨x12,hx12,H⟩:=al H
  refine Wx 1 16 true tk [PSig.at' kV ((((iNe x2 0)&&(sEq x4.1 ByteArray.empty))||((iEq x2 0)&&(sEq x4.1 x11)))=true) rfl (fun hb=>kU (of_t hx12 hb))] rfl rfl (fun hb=>⟨⟨hb,rfl⟩,tv⟩) (RS 2 rfl ⟨by first | exact id | exact fun h=>by rw [h];rfl | simp_all,tv⟩ (NQ (Wt ?_)))
  cases H
  exact Ea rfl rfl rfl tv
end Go.Proofs.YtdebndfaknfefaaGreatDoor.W
