/- What the arguments of the laws say. -/
import Derived.Test.YtcnfbifekdmacaaXBulk
import Derived.Test.YtcnfbifekdmacaaPF
namespace LJ
open Go Go.RowKit
set_option linter.unusedVariables false
def wf_api_Decl (x : T_api_Decl) : Prop := (inI64 x.Kind) ∧ (inI64 x.A) ∧ (inI64 x.B)
theorem conf_api_Decl (ds : List DV) (g0 : ConfL [.int .i64, .int .i64, .int .i64] ds) : ∃ x : T_api_Decl, wf_api_Decl x ∧ LeL ds [.int .i64 x.Kind, .int .i64 x.A, .int .i64 x.B] := by
  obtain ⟨d0, r0, rfl, h0, g1⟩ := g0.cons
  obtain ⟨x0, rfl, w0⟩ := conf_i64 h0
  obtain ⟨d1, r1, rfl, h1, g2⟩ := g1.cons
  obtain ⟨x1, rfl, w1⟩ := conf_i64 h1
  obtain ⟨d2, r2, rfl, h2, g3⟩ := g2.cons
  obtain ⟨x2, rfl, w2⟩ := conf_i64 h2
  obtain rfl := g3.nil
  exact ⟨⟨x0, x1, x2⟩, ⟨w0, w1, w2⟩, (.cons .rfl' (.cons .rfl' (.cons .rfl' .nil)))⟩
def wf_api_Need (x : T_api_Need) : Prop := (inI64 x.Kind) ∧ (inI64 x.Obj) ∧ (inI64 x.N)
theorem conf_api_Need (ds : List DV) (g0 : ConfL [.int .i64, .int .i64, .int .i64] ds) : ∃ x : T_api_Need, wf_api_Need x ∧ LeL ds [.int .i64 x.Kind, .int .i64 x.Obj, .int .i64 x.N] := by
  obtain ⟨d0, r0, rfl, h0, g1⟩ := g0.cons
  obtain ⟨x0, rfl, w0⟩ := conf_i64 h0
  obtain ⟨d1, r1, rfl, h1, g2⟩ := g1.cons
  obtain ⟨x1, rfl, w1⟩ := conf_i64 h1
  obtain ⟨d2, r2, rfl, h2, g3⟩ := g2.cons
  obtain ⟨x2, rfl, w2⟩ := conf_i64 h2
  obtain rfl := g3.nil
  exact ⟨⟨x0, x1, x2⟩, ⟨w0, w1, w2⟩, (.cons .rfl' (.cons .rfl' (.cons .rfl' .nil)))⟩
def wf_api_Ins (x : T_api_Ins) : Prop := (inI64 x.Op) ∧ (inI64 x.A) ∧ (inI64 x.B)
theorem conf_api_Ins (ds : List DV) (g0 : ConfL [.int .i64, .int .i64, .int .i64] ds) : ∃ x : T_api_Ins, wf_api_Ins x ∧ LeL ds [.int .i64 x.Op, .int .i64 x.A, .int .i64 x.B] := by
  obtain ⟨d0, r0, rfl, h0, g1⟩ := g0.cons
  obtain ⟨x0, rfl, w0⟩ := conf_i64 h0
  obtain ⟨d1, r1, rfl, h1, g2⟩ := g1.cons
  obtain ⟨x1, rfl, w1⟩ := conf_i64 h1
  obtain ⟨d2, r2, rfl, h2, g3⟩ := g2.cons
  obtain ⟨x2, rfl, w2⟩ := conf_i64 h2
  obtain rfl := g3.nil
  exact ⟨⟨x0, x1, x2⟩, ⟨w0, w1, w2⟩, (.cons .rfl' (.cons .rfl' (.cons .rfl' .nil)))⟩
def wf_api_Func (x : T_api_Func) : Prop := (inI64 x.Args) ∧ (inI64 x.Locals) ∧ (x.Code.length ≤ maxLen ∧ ∀ y ∈ x.Code, wf_api_Ins y)
theorem conf_api_Func (ds : List DV) (g0 : ConfL [.int .i64, .int .i64, .slice [.int .i64, .int .i64, .int .i64]] ds) : ∃ x : T_api_Func, wf_api_Func x ∧ LeL ds [.int .i64 x.Args, .int .i64 x.Locals, slT enc_api_Ins x.Code] := by
  obtain ⟨d0, r0, rfl, h0, g1⟩ := g0.cons
  obtain ⟨x0, rfl, w0⟩ := conf_i64 h0
  obtain ⟨d1, r1, rfl, h1, g2⟩ := g1.cons
  obtain ⟨x1, rfl, w1⟩ := conf_i64 h1
  obtain ⟨d2, r2, rfl, h2, g3⟩ := g2.cons
  obtain ⟨x2, y2, w2, l2⟩ := conf_slice enc_api_Ins wf_api_Ins conf_api_Ins h2
  obtain rfl := g3.nil
  exact ⟨⟨x0, x1, x2⟩, ⟨w0, w1, ⟨y2, w2⟩⟩, (.cons .rfl' (.cons .rfl' (.cons l2 .nil)))⟩
def wf_api_Program (x : T_api_Program) : Prop := (x.Decls.length ≤ maxLen ∧ ∀ y ∈ x.Decls, wf_api_Decl y) ∧ (x.Waits.length ≤ maxLen ∧ ∀ y ∈ x.Waits, (fun l : List (List T_api_Need) => l.length ≤ maxLen ∧ ∀ y ∈ l, (fun l : List T_api_Need => l.length ≤ maxLen ∧ ∀ y ∈ l, wf_api_Need y) y) y) ∧ (x.Funcs.length ≤ maxLen ∧ ∀ y ∈ x.Funcs, wf_api_Func y)
theorem conf_api_Program (ds : List DV) (g0 : ConfL [.slice [.int .i64, .int .i64, .int .i64], .slice [.slice [.slice [.int .i64, .int .i64, .int .i64]]], .slice [.int .i64, .int .i64, .slice [.int .i64, .int .i64, .int .i64]]] ds) : ∃ x : T_api_Program, wf_api_Program x ∧ LeL ds [slT enc_api_Decl x.Decls, slT enc_sl_sl_api_Need x.Waits, slT enc_api_Func x.Funcs] := by
  obtain ⟨d0, r0, rfl, h0, g1⟩ := g0.cons
  obtain ⟨x0, y0, w0, l0⟩ := conf_slice enc_api_Decl wf_api_Decl conf_api_Decl h0
  obtain ⟨d1, r1, rfl, h1, g2⟩ := g1.cons
  obtain ⟨x1, y1, w1, l1⟩ := conf_slice enc_sl_sl_api_Need (fun l : List (List T_api_Need) => l.length ≤ maxLen ∧ ∀ y ∈ l, (fun l : List T_api_Need => l.length ≤ maxLen ∧ ∀ y ∈ l, wf_api_Need y) y) (conf_el enc_sl_api_Need (fun l : List T_api_Need => l.length ≤ maxLen ∧ ∀ y ∈ l, wf_api_Need y) (conf_el enc_api_Need wf_api_Need conf_api_Need)) h1
  obtain ⟨d2, r2, rfl, h2, g3⟩ := g2.cons
  obtain ⟨x2, y2, w2, l2⟩ := conf_slice enc_api_Func wf_api_Func conf_api_Func h2
  obtain rfl := g3.nil
  exact ⟨⟨x0, x1, x2⟩, ⟨⟨y0, w0⟩, ⟨y1, w1⟩, ⟨y2, w2⟩⟩, (.cons l0 (.cons l1 (.cons l2 .nil)))⟩
def wf_api_Frame (x : T_api_Frame) : Prop := (inI64 x.Fn) ∧ (inI64 x.Pc) ∧ (inI64 x.N) ∧ (x.L.length = 8) ∧ (x.S.length = 16)
theorem conf_api_Frame (ds : List DV) (g0 : ConfL [.int .i64, .int .i64, .int .i64, .int .i64, .int .i64, .int .i64, .int .i64, .int .i64, .int .i64, .int .i64, .int .i64, .int .i64, .int .i64, .int .i64, .int .i64, .int .i64, .int .i64, .int .i64, .int .i64, .int .i64, .int .i64, .int .i64, .int .i64, .int .i64, .int .i64, .int .i64, .int .i64] ds) : ∃ x : T_api_Frame, wf_api_Frame x ∧ LeL ds [.int .i64 x.Fn, .int .i64 x.Pc, .int .i64 x.N, .int .i64 (x.L.getD 0 default), .int .i64 (x.L.getD 1 default), .int .i64 (x.L.getD 2 default), .int .i64 (x.L.getD 3 default), .int .i64 (x.L.getD 4 default), .int .i64 (x.L.getD 5 default), .int .i64 (x.L.getD 6 default), .int .i64 (x.L.getD 7 default), .int .i64 (x.S.getD 0 default), .int .i64 (x.S.getD 1 default), .int .i64 (x.S.getD 2 default), .int .i64 (x.S.getD 3 default), .int .i64 (x.S.getD 4 default), .int .i64 (x.S.getD 5 default), .int .i64 (x.S.getD 6 default), .int .i64 (x.S.getD 7 default), .int .i64 (x.S.getD 8 default), .int .i64 (x.S.getD 9 default), .int .i64 (x.S.getD 10 default), .int .i64 (x.S.getD 11 default), .int .i64 (x.S.getD 12 default), .int .i64 (x.S.getD 13 default), .int .i64 (x.S.getD 14 default), .int .i64 (x.S.getD 15 default)] := by
  obtain ⟨d0, r0, rfl, h0, g1⟩ := g0.cons
  obtain ⟨x0, rfl, w0⟩ := conf_i64 h0
  obtain ⟨d1, r1, rfl, h1, g2⟩ := g1.cons
  obtain ⟨x1, rfl, w1⟩ := conf_i64 h1
  obtain ⟨d2, r2, rfl, h2, g3⟩ := g2.cons
  obtain ⟨x2, rfl, w2⟩ := conf_i64 h2
  obtain ⟨d3, r3, rfl, h3, g4⟩ := g3.cons
  obtain ⟨x3, rfl, w3⟩ := conf_i64 h3
  obtain ⟨d4, r4, rfl, h4, g5⟩ := g4.cons
  obtain ⟨x4, rfl, w4⟩ := conf_i64 h4
  obtain ⟨d5, r5, rfl, h5, g6⟩ := g5.cons
  obtain ⟨x5, rfl, w5⟩ := conf_i64 h5
  obtain ⟨d6, r6, rfl, h6, g7⟩ := g6.cons
  obtain ⟨x6, rfl, w6⟩ := conf_i64 h6
  obtain ⟨d7, r7, rfl, h7, g8⟩ := g7.cons
  obtain ⟨x7, rfl, w7⟩ := conf_i64 h7
  obtain ⟨d8, r8, rfl, h8, g9⟩ := g8.cons
  obtain ⟨x8, rfl, w8⟩ := conf_i64 h8
  obtain ⟨d9, r9, rfl, h9, g10⟩ := g9.cons
  obtain ⟨x9, rfl, w9⟩ := conf_i64 h9
  obtain ⟨d10, r10, rfl, h10, g11⟩ := g10.cons
  obtain ⟨x10, rfl, w10⟩ := conf_i64 h10
  obtain ⟨d11, r11, rfl, h11, g12⟩ := g11.cons
  obtain ⟨x11, rfl, w11⟩ := conf_i64 h11
  obtain ⟨d12, r12, rfl, h12, g13⟩ := g12.cons
  obtain ⟨x12, rfl, w12⟩ := conf_i64 h12
  obtain ⟨d13, r13, rfl, h13, g14⟩ := g13.cons
  obtain ⟨x13, rfl, w13⟩ := conf_i64 h13
  obtain ⟨d14, r14, rfl, h14, g15⟩ := g14.cons
  obtain ⟨x14, rfl, w14⟩ := conf_i64 h14
  obtain ⟨d15, r15, rfl, h15, g16⟩ := g15.cons
  obtain ⟨x15, rfl, w15⟩ := conf_i64 h15
  obtain ⟨d16, r16, rfl, h16, g17⟩ := g16.cons
  obtain ⟨x16, rfl, w16⟩ := conf_i64 h16
  obtain ⟨d17, r17, rfl, h17, g18⟩ := g17.cons
  obtain ⟨x17, rfl, w17⟩ := conf_i64 h17
  obtain ⟨d18, r18, rfl, h18, g19⟩ := g18.cons
  obtain ⟨x18, rfl, w18⟩ := conf_i64 h18
  obtain ⟨d19, r19, rfl, h19, g20⟩ := g19.cons
  obtain ⟨x19, rfl, w19⟩ := conf_i64 h19
  obtain ⟨d20, r20, rfl, h20, g21⟩ := g20.cons
  obtain ⟨x20, rfl, w20⟩ := conf_i64 h20
  obtain ⟨d21, r21, rfl, h21, g22⟩ := g21.cons
  obtain ⟨x21, rfl, w21⟩ := conf_i64 h21
  obtain ⟨d22, r22, rfl, h22, g23⟩ := g22.cons
  obtain ⟨x22, rfl, w22⟩ := conf_i64 h22
  obtain ⟨d23, r23, rfl, h23, g24⟩ := g23.cons
  obtain ⟨x23, rfl, w23⟩ := conf_i64 h23
  obtain ⟨d24, r24, rfl, h24, g25⟩ := g24.cons
  obtain ⟨x24, rfl, w24⟩ := conf_i64 h24
  obtain ⟨d25, r25, rfl, h25, g26⟩ := g25.cons
  obtain ⟨x25, rfl, w25⟩ := conf_i64 h25
  obtain ⟨d26, r26, rfl, h26, g27⟩ := g26.cons
  obtain ⟨x26, rfl, w26⟩ := conf_i64 h26
  obtain rfl := g27.nil
  exact ⟨⟨x0, x1, x2, [x3, x4, x5, x6, x7, x8, x9, x10], [x11, x12, x13, x14, x15, x16, x17, x18, x19, x20, x21, x22, x23, x24, x25, x26]⟩, ⟨w0, w1, w2, rfl, rfl⟩, (.cons .rfl' (.cons .rfl' (.cons .rfl' (.cons .rfl' (.cons .rfl' (.cons .rfl' (.cons .rfl' (.cons .rfl' (.cons .rfl' (.cons .rfl' (.cons .rfl' (.cons .rfl' (.cons .rfl' (.cons .rfl' (.cons .rfl' (.cons .rfl' (.cons .rfl' (.cons .rfl' (.cons .rfl' (.cons .rfl' (.cons .rfl' (.cons .rfl' (.cons .rfl' (.cons .rfl' (.cons .rfl' (.cons .rfl' (.cons .rfl' .nil)))))))))))))))))))))))))))⟩
theorem shp_api_Decl (x : T_api_Decl) : ShpL [.int .i64, .int .i64, .int .i64] [.int .i64 x.Kind, .int .i64 x.A, .int .i64 x.B] := (.cons .int (.cons .int (.cons .int .nil)))
theorem shp_api_Need (x : T_api_Need) : ShpL [.int .i64, .int .i64, .int .i64] [.int .i64 x.Kind, .int .i64 x.Obj, .int .i64 x.N] := (.cons .int (.cons .int (.cons .int .nil)))
theorem shp_api_Ins (x : T_api_Ins) : ShpL [.int .i64, .int .i64, .int .i64] [.int .i64 x.Op, .int .i64 x.A, .int .i64 x.B] := (.cons .int (.cons .int (.cons .int .nil)))
theorem shp_api_Func (x : T_api_Func) : ShpL [.int .i64, .int .i64, .slice [.int .i64, .int .i64, .int .i64]] [.int .i64 x.Args, .int .i64 x.Locals, slT enc_api_Ins x.Code] := (.cons .int (.cons .int (.cons (LJ.Shp.slT LJ.shp_api_Ins) .nil)))
theorem shp_api_Program (x : T_api_Program) : ShpL [.slice [.int .i64, .int .i64, .int .i64], .slice [.slice [.slice [.int .i64, .int .i64, .int .i64]]], .slice [.int .i64, .int .i64, .slice [.int .i64, .int .i64, .int .i64]]] [slT enc_api_Decl x.Decls, slT enc_sl_sl_api_Need x.Waits, slT enc_api_Func x.Funcs] := (.cons (LJ.Shp.slT LJ.shp_api_Decl) (.cons (LJ.Shp.slT (fun _ => .cons (LJ.Shp.slT (fun _ => .cons (LJ.Shp.slT LJ.shp_api_Need) .nil)) .nil)) (.cons (LJ.Shp.slT LJ.shp_api_Func) .nil)))
theorem shp_api_Frame (x : T_api_Frame) : ShpL [.int .i64, .int .i64, .int .i64, .int .i64, .int .i64, .int .i64, .int .i64, .int .i64, .int .i64, .int .i64, .int .i64, .int .i64, .int .i64, .int .i64, .int .i64, .int .i64, .int .i64, .int .i64, .int .i64, .int .i64, .int .i64, .int .i64, .int .i64, .int .i64, .int .i64, .int .i64, .int .i64] [.int .i64 x.Fn, .int .i64 x.Pc, .int .i64 x.N, .int .i64 (x.L.getD 0 default), .int .i64 (x.L.getD 1 default), .int .i64 (x.L.getD 2 default), .int .i64 (x.L.getD 3 default), .int .i64 (x.L.getD 4 default), .int .i64 (x.L.getD 5 default), .int .i64 (x.L.getD 6 default), .int .i64 (x.L.getD 7 default), .int .i64 (x.S.getD 0 default), .int .i64 (x.S.getD 1 default), .int .i64 (x.S.getD 2 default), .int .i64 (x.S.getD 3 default), .int .i64 (x.S.getD 4 default), .int .i64 (x.S.getD 5 default), .int .i64 (x.S.getD 6 default), .int .i64 (x.S.getD 7 default), .int .i64 (x.S.getD 8 default), .int .i64 (x.S.getD 9 default), .int .i64 (x.S.getD 10 default), .int .i64 (x.S.getD 11 default), .int .i64 (x.S.getD 12 default), .int .i64 (x.S.getD 13 default), .int .i64 (x.S.getD 14 default), .int .i64 (x.S.getD 15 default)] := (.cons .int (.cons .int (.cons .int (.cons .int (.cons .int (.cons .int (.cons .int (.cons .int (.cons .int (.cons .int (.cons .int (.cons .int (.cons .int (.cons .int (.cons .int (.cons .int (.cons .int (.cons .int (.cons .int (.cons .int (.cons .int (.cons .int (.cons .int (.cons .int (.cons .int (.cons .int (.cons .int .nil)))))))))))))))))))))))))))
end LJ
