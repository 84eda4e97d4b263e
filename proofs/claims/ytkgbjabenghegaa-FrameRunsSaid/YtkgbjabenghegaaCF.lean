/- What the arguments of the laws say. -/
import Derived.Test.YtkgbjabenghegaaXBulk
import Derived.Test.YtkgbjabenghegaaPF
namespace LJ
open Go Go.RowKit
set_option linter.unusedVariables false
def wf_ref14_Op (x : T_ref14_Op) : Prop := (inI64 x.Kind) ∧ (inI64 x.K) ∧ (inI64 x.V)
theorem conf_ref14_Op (ds : List DV) (g0 : ConfL [.int .i64, .int .i64, .int .i64] ds) : ∃ x : T_ref14_Op, wf_ref14_Op x ∧ LeL ds [.int .i64 x.Kind, .int .i64 x.K, .int .i64 x.V] := by
  obtain ⟨d0, r0, rfl, h0, g1⟩ := g0.cons
  obtain ⟨x0, rfl, w0⟩ := conf_i64 h0
  obtain ⟨d1, r1, rfl, h1, g2⟩ := g1.cons
  obtain ⟨x1, rfl, w1⟩ := conf_i64 h1
  obtain ⟨d2, r2, rfl, h2, g3⟩ := g2.cons
  obtain ⟨x2, rfl, w2⟩ := conf_i64 h2
  obtain rfl := g3.nil
  exact ⟨⟨x0, x1, x2⟩, ⟨w0, w1, w2⟩, (.cons .rfl' (.cons .rfl' (.cons .rfl' .nil)))⟩
theorem shp_ref14_Op (x : T_ref14_Op) : ShpL [.int .i64, .int .i64, .int .i64] [.int .i64 x.Kind, .int .i64 x.K, .int .i64 x.V] := (.cons .int (.cons .int (.cons .int .nil)))
end LJ
