/- The law ExecGoes: for every input its call returns true, and the arguments read as before. No condition of my own. -/
import Derived.Test.YtcnfbifekdmacaaRows
import Derived.Test.YtcnfbifekdmacaaXLaid
import Derived.Test.YtcnfbifekdmacaaE15F
import Derived.Test.YtcnfbifekdmacaaWF
import Derived.Test.YtcnfbifekdmacaaCF
import Derived.WalkKit
import Derived.ProofKit
import Derived.OpenShut
import Derived.ShutString
import Derived.ChangeOld
import Derived.Below
import Derived.SizedLaws
import Derived.Carry
namespace Go.Proofs.Ytcnfbifekdmacaa.execGoes
open Go.ChangeShapes Go.WideShapes Go.ChangeAt Go.RowKit
open Go.ChangeMaps (open_string shut_string)
set_option linter.unusedVariables false
set_option linter.unusedSimpArgs false
theorem own : ownKnob Try.prog.godebug = none := by kernel_rfl
theorem laidOut : laidOutB Try.prog = true := by kernel_rfl
set_option maxRecDepth 100000 in
theorem lifted (os : Os) (started : os.Started) (H : Type) (enc : TypeId × Value → H) :
    ReturnsInHanded {} Try.checked os 4 .any (Rows.execGoesSpec.pre6 enc Try.prog Try.f4 Rows.execGoesRow.domain false) (Rows.execGoesSpec.post enc Try.prog Try.f4 false true false false) := by
  refine returnsInHanded_of_change_sized (C := Try.checked) own started (by kernel_rfl) Try.func4
    (ChangeSpec.witness6 (enc := enc) (C := Try.checked) false ⟨#[], #[.agg #[.slice none 0 0, .slice none 0 0, .slice none 0 0], .agg #[.int .i64 0, .slice none 0 0, .int .i64 0, .int .i64 0, .int .i64 0]], []⟩ 8 (by kernel_rfl) (by kernel_rfl) (by kernel_rfl) (by kernel_rfl)) ?_
  intro W base args ds gs before hval0 hW hcnd hsz0 _
  have hsz : (DataW.weightsEach Try.prog (Try.f4.params.toList ++ Rows.execGoesSpec.plain.varTypes Try.prog) (ds ++ gs)).all (· ≤ reachBytes) = true := hsz0
  have hval : ∀ (j : Nat) t v, Try.f4.params[j]? = some t → args[j]? = some v → Value.okWide Try.prog W .any base t v := hval0
  have hW' := hW
  obtain ⟨p, q, hA0, hV, rfl, hfz, hnd⟩ := hW
  have hA : DataW.TrodAll enc Try.prog W 0 (fun _ => true) true Try.f4.params.toList args.toList ds p := hA0
  rw [Try.params4] at hA hval hsz
  have hlt := hA.lt
  obtain ⟨v0, vs0, d0, ds0, p0, q0, hargs, rfl, rfl, h0, r0⟩ := trodAll_cons hA
  obtain ⟨v1, vs1, d1, ds1, p1, q1, rfl, rfl, rfl, h1, r1⟩ := trodAll_cons r0
  obtain ⟨rfl, rfl, rfl⟩ := trodAll_nil r1
  obtain rfl : args = #[v0, v1] := by cases args; simp_all
  obtain ⟨rfl, rfl⟩ := trodVars_none hV
  obtain ⟨vs0', rfl, _⟩ := okWide_struct Try.underlying26 (hval 0 26 v0 rfl rfl)
  obtain ⟨x0, k0, e0⟩ := LJ.open_agg 8 (ks := [.slice [.int .i64, .int .i64, .int .i64], .slice [.slice [.slice [.int .i64, .int .i64, .int .i64]]], .slice [.int .i64, .int .i64, .slice [.int .i64, .int .i64, .int .i64]]]) (by kernel_rfl) h0
  obtain ⟨a0, w0, le0⟩ := LJ.conf_api_Program x0 k0
  obtain ⟨vs1', rfl, _⟩ := okWide_struct Try.underlying29 (hval 1 29 v1 rfl rfl)
  obtain ⟨x1, k1, e1⟩ := LJ.open_agg 5 (ks := [.int .i64, .slice [.int .i64], .int .i64, .int .i64, .int .i64]) (by kernel_rfl) h1
  obtain ⟨a1, w1, le1⟩ := LJ.conf_law15_Start x1 k1
  clear hA0 hval0 hsz0 hsz
  have hr := LJ.Reps.all (F := fun b => b < W.heap.size) (N := ⟨fun _ => 0, fun _ => undef⟩) (w := W) (LJ.Reps.cons (.d (.agg_le le0 e0)) (LJ.Reps.cons (.d (.agg_le le1 e1)) LJ.Reps.nil))
  refine ((Go.Proofs.Ytcnfbifekdmacaa.W.law15_ExecGoes_0 a0 a1 (LJ.ExecGoes_pure a0 a1)).walk (fun b => b < W.heap.size) W [.agg vs0', .agg vs1'] (fun b hb => hb) (fun g cs h => (LJ.gget_nil h).elim) hr.1 hr.2).mono fun e W' ⟨he, bel⟩ => ?_
  subst he
  exact ⟨_, rfl, _, _, _, [], _, [], hW', trodAll_mk1 (shut_bool Try.underlying4 _), (trodAll_cons_mk (Below.trod laidOut (by kernel_rfl) (of_decide_eq_true (by kernel_rfl)) h0 bel (fun x hx => hlt x (by simp [hx]))) (trodAll_cons_mk (Below.trod laidOut (by kernel_rfl) (of_decide_eq_true (by kernel_rfl)) h1 bel (fun x hx => hlt x (by simp [hx]))) trodAll_mk0)), rfl, bel.frame _, fun h => by cases h⟩
theorem over : Rows.execGoesRow.holds Try.pinned (OpenSpec.ofChange Rows.execGoesSpec) :=
  OpenClaim.holds_of_wide 4 Try.f4 rfl rfl rfl rfl rfl rfl rfl ⟨rfl, rfl, rfl, rfl, rfl⟩ rfl rfl rfl rfl rfl (by kernel_rfl) Try.func4 (by kernel_rfl)
    (of_decide_eq_true (by kernel_rfl)) (by unfold Func.isWrapper; first | (rw [if_pos (by decide +kernel)]; kernel_rfl) | (rw [if_neg (by decide +kernel)]; exact ⟨rfl, rfl⟩))
    (fun os started H enc _ => lifted os started H enc)
theorem proved : Rows.ExecGoesSaid := over
#print axioms proved
end Go.Proofs.Ytcnfbifekdmacaa.execGoes
namespace Go.Proofs.Ytcnfbifekdmacaa
/-- The row, under a short name, for the claim. -/
theorem execGoes_holds : Rows.ExecGoesSaid := execGoes.proved
end Go.Proofs.Ytcnfbifekdmacaa
