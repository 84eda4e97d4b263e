/- What the arguments of the laws say. -/
import Derived.Test.YthgjdnknjofdjaaDoorXBulk
import Derived.Test.YthgjdnknjofdjaaDoorPF
namespace LJ
open Go Go.RowKit
set_option linter.unusedVariables false
def wf_api_Decl (x : T_api_Decl) : Prop := (inI64 x.Kind) ∧ (inI64 x.A) ∧ (inI64 x.B)
theorem conf_api_Decl (ds : List DV) (g0 : ConfL [.int .i64, .int .i64, .int .i64] ds) : ∃ x : T_api_Decl, wf_api_Decl x ∧ LeL ds [.int .i64 x.Kind, .int .i64 x.A, .int .i64 x.B] := by
  obtain ⟨d0, r0, rfl, h0, g1⟩ := g0.cons
  obtain ⟨x0, rfl, w0⟩ := conf_i64 h0
  obtain ⟨d1, r1, rfl, h1, g2⟩ := g1.cons
  obtain ⟨x1, rfl, w1⟩ := conf_i64 h1
  obtain ⟨d2, r2, rfl, h2, g3⟩ := g2.cons
  obtain ⟨x2, rfl, w2⟩ := conf_i64 h2
  obtain rfl := g3.nil
  exact ⟨⟨x0, x1, x2⟩, ⟨w0, w1, w2⟩, (.cons .rfl' (.cons .rfl' (.cons .rfl' .nil)))⟩
def wf_api_Need (x : T_api_Need) : Prop := (inI64 x.Kind) ∧ (inI64 x.Obj) ∧ (inI64 x.N)
theorem conf_api_Need (ds : List DV) (g0 : ConfL [.int .i64, .int .i64, .int .i64] ds) : ∃ x : T_api_Need, wf_api_Need x ∧ LeL ds [.int .i64 x.Kind, .int .i64 x.Obj, .int .i64 x.N] := by
  obtain ⟨d0, r0, rfl, h0, g1⟩ := g0.cons
  obtain ⟨x0, rfl, w0⟩ := conf_i64 h0
  obtain ⟨d1, r1, rfl, h1, g2⟩ := g1.cons
  obtain ⟨x1, rfl, w1⟩ := conf_i64 h1
  obtain ⟨d2, r2, rfl, h2, g3⟩ := g2.cons
  obtain ⟨x2, rfl, w2⟩ := conf_i64 h2
  obtain rfl := g3.nil
  exact ⟨⟨x0, x1, x2⟩, ⟨w0, w1, w2⟩, (.cons .rfl' (.cons .rfl' (.cons .rfl' .nil)))⟩
def wf_api_Ins (x : T_api_Ins) : Prop := (inI64 x.Op) ∧ (inI64 x.A) ∧ (inI64 x.B)
theorem conf_api_Ins (ds : List DV) (g0 : ConfL [.int .i64, .int .i64, .int .i64] ds) : ∃ x : T_api_Ins, wf_api_Ins x ∧ LeL ds [.int .i64 x.Op, .int .i64 x.A, .int .i64 x.B] := by
  obtain ⟨d0, r0, rfl, h0, g1⟩ := g0.cons
  obtain ⟨x0, rfl, w0⟩ := conf_i64 h0
  obtain ⟨d1, r1, rfl, h1, g2⟩ := g1.cons
  obtain ⟨x1, rfl, w1⟩ := conf_i64 h1
  obtain ⟨d2, r2, rfl, h2, g3⟩ := g2.cons
  obtain ⟨x2, rfl, w2⟩ := conf_i64 h2
  obtain rfl := g3.nil
  exact ⟨⟨x0, x1, x2⟩, ⟨w0, w1, w2⟩, (.cons .rfl' (.cons .rfl' (.cons .rfl' .nil)))⟩
def wf_api_Func (x : T_api_Func) : Prop := (inI64 x.Args) ∧ (inI64 x.Locals) ∧ (x.Code.length ≤ maxLen ∧ ∀ y ∈ x.Code, wf_api_Ins y)
theorem conf_api_Func (ds : List DV) (g0 : ConfL [.int .i64, .int .i64, .slice [.int .i64, .int .i64, .int .i64]] ds) : ∃ x : T_api_Func, wf_api_Func x ∧ LeL ds [.int .i64 x.Args, .int .i64 x.Locals, slT enc_api_Ins x.Code] := by
  obtain ⟨d0, r0, rfl, h0, g1⟩ := g0.cons
  obtain ⟨x0, rfl, w0⟩ := conf_i64 h0
  obtain ⟨d1, r1, rfl, h1, g2⟩ := g1.cons
  obtain ⟨x1, rfl, w1⟩ := conf_i64 h1
  obtain ⟨d2, r2, rfl, h2, g3⟩ := g2.cons
  obtain ⟨x2, y2, w2, l2⟩ := conf_slice enc_api_Ins wf_api_Ins conf_api_Ins h2
  obtain rfl := g3.nil
  exact ⟨⟨x0, x1, x2⟩, ⟨w0, w1, ⟨y2, w2⟩⟩, (.cons .rfl' (.cons .rfl' (.cons l2 .nil)))⟩
def wf_api_Program (x : T_api_Program) : Prop := (x.Decls.length ≤ maxLen ∧ ∀ y ∈ x.Decls, wf_api_Decl y) ∧ (x.Waits.length ≤ maxLen ∧ ∀ y ∈ x.Waits, (fun l : List (List T_api_Need) => l.length ≤ maxLen ∧ ∀ y ∈ l, (fun l : List T_api_Need => l.length ≤ maxLen ∧ ∀ y ∈ l, wf_api_Need y) y) y) ∧ (x.Funcs.length ≤ maxLen ∧ ∀ y ∈ x.Funcs, wf_api_Func y)
theorem conf_api_Program (ds : List DV) (g0 : ConfL [.slice [.int .i64, .int .i64, .int .i64], .slice [.slice [.slice [.int .i64, .int .i64, .int .i64]]], .slice [.int .i64, .int .i64, .slice [.int .i64, .int .i64, .int .i64]]] ds) : ∃ x : T_api_Program, wf_api_Program x ∧ LeL ds [slT enc_api_Decl x.Decls, slT enc_sl_sl_api_Need x.Waits, slT enc_api_Func x.Funcs] := by
  obtain ⟨d0, r0, rfl, h0, g1⟩ := g0.cons
  obtain ⟨x0, y0, w0, l0⟩ := conf_slice enc_api_Decl wf_api_Decl conf_api_Decl h0
  obtain ⟨d1, r1, rfl, h1, g2⟩ := g1.cons
  obtain ⟨x1, y1, w1, l1⟩ := conf_slice enc_sl_sl_api_Need (fun l : List (List T_api_Need) => l.length ≤ maxLen ∧ ∀ y ∈ l, (fun l : List T_api_Need => l.length ≤ maxLen ∧ ∀ y ∈ l, wf_api_Need y) y) (conf_el enc_sl_api_Need (fun l : List T_api_Need => l.length ≤ maxLen ∧ ∀ y ∈ l, wf_api_Need y) (conf_el enc_api_Need wf_api_Need conf_api_Need)) h1
  obtain ⟨d2, r2, rfl, h2, g3⟩ := g2.cons
  obtain ⟨x2, y2, w2, l2⟩ := conf_slice enc_api_Func wf_api_Func conf_api_Func h2
  obtain rfl := g3.nil
  exact ⟨⟨x0, x1, x2⟩, ⟨⟨y0, w0⟩, ⟨y1, w1⟩, ⟨y2, w2⟩⟩, (.cons l0 (.cons l1 (.cons l2 .nil)))⟩
end LJ
