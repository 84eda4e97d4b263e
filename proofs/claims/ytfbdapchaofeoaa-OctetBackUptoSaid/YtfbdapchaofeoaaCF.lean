/- What the arguments of the laws say. -/
import Derived.Test.YtfbdapchaofeoaaXBulk
import Derived.Test.YtfbdapchaofeoaaPF
namespace LJ
open Go Go.RowKit
set_option linter.unusedVariables false
def wf_ref01_Op (x : T_ref01_Op) : Prop := (inI64 x.Kind) ∧ (inU64 x.N) ∧ (inI64 x.I) ∧ (x.S.size ≤ maxLen)
theorem conf_ref01_Op (ds : List DV) (g0 : ConfL [.int .i64, .int .u64, .int .i64, .str] ds) : ∃ x : T_ref01_Op, wf_ref01_Op x ∧ LeL ds [.int .i64 x.Kind, .int .u64 x.N, .int .i64 x.I, .str x.S] := by
  obtain ⟨d0, r0, rfl, h0, g1⟩ := g0.cons
  obtain ⟨x0, rfl, w0⟩ := conf_i64 h0
  obtain ⟨d1, r1, rfl, h1, g2⟩ := g1.cons
  obtain ⟨x1, rfl, w1⟩ := conf_u64 h1
  obtain ⟨d2, r2, rfl, h2, g3⟩ := g2.cons
  obtain ⟨x2, rfl, w2⟩ := conf_i64 h2
  obtain ⟨d3, r3, rfl, h3, g4⟩ := g3.cons
  obtain ⟨x3, rfl, w3⟩ := conf_str h3
  obtain rfl := g4.nil
  exact ⟨⟨x0, x1, x2, x3⟩, ⟨w0, w1, w2, w3⟩, (.cons .rfl' (.cons .rfl' (.cons .rfl' (.cons .rfl' .nil))))⟩
theorem shp_ref01_Op (x : T_ref01_Op) : ShpL [.int .i64, .int .u64, .int .i64, .str] [.int .i64 x.Kind, .int .u64 x.N, .int .i64 x.I, .str x.S] := (.cons .int (.cons .int (.cons .int (.cons .str .nil))))
end LJ
