/- The law ExecPure: for every input its call returns true, and the arguments read as before. No condition of my own. -/
import Derived.Test.YtcnfbifekdmacaaRows
import Derived.Test.YtcnfbifekdmacaaXLaid
import Derived.Test.YtcnfbifekdmacaaE15A
import Derived.Test.YtcnfbifekdmacaaWF
import Derived.Test.YtcnfbifekdmacaaCF
import Derived.WalkKit
import Derived.ProofKit
import Derived.OpenShut
import Derived.ShutString
import Derived.ChangeOld
import Derived.Below
import Derived.SizedLaws
import Derived.Carry
namespace Go.Proofs.Ytcnfbifekdmacaa.execPure
open Go.ChangeShapes Go.WideShapes Go.ChangeAt Go.RowKit
open Go.ChangeMaps (open_string shut_string)
set_option linter.unusedVariables false
set_option linter.unusedSimpArgs false
theorem own : ownKnob Try.prog.godebug = none := by kernel_rfl
theorem laidOut : laidOutB Try.prog = true := by kernel_rfl
set_option maxRecDepth 100000 in
theorem lifted (os : Os) (started : os.Started) (H : Type) (enc : TypeId × Value → H) :
    ReturnsInHanded {} Try.checked os 6 .any (Rows.execPureSpec.pre6 enc Try.prog Try.f6 Rows.execPureRow.domain false) (Rows.execPureSpec.post enc Try.prog Try.f6 false true false false) := by
  refine returnsInHanded_of_change_sized (C := Try.checked) own started (by kernel_rfl) Try.func6
    (ChangeSpec.witness6 (enc := enc) (C := Try.checked) false ⟨#[], #[.int .i64 0], []⟩ 8 (by kernel_rfl) (by kernel_rfl) (by kernel_rfl) (by kernel_rfl)) ?_
  intro W base args ds gs before hval0 hW hcnd hsz0 _
  have hsz : (DataW.weightsEach Try.prog (Try.f6.params.toList ++ Rows.execPureSpec.plain.varTypes Try.prog) (ds ++ gs)).all (· ≤ reachBytes) = true := hsz0
  have hval : ∀ (j : Nat) t v, Try.f6.params[j]? = some t → args[j]? = some v → Value.okWide Try.prog W .any base t v := hval0
  have hW' := hW
  obtain ⟨p, q, hA0, hV, rfl, hfz, hnd⟩ := hW
  have hA : DataW.TrodAll enc Try.prog W 0 (fun _ => true) true Try.f6.params.toList args.toList ds p := hA0
  rw [Try.params6] at hA hval hsz
  have hlt := hA.lt
  obtain ⟨v0, vs0, d0, ds0, p0, q0, hargs, rfl, rfl, h0, r0⟩ := trodAll_cons hA
  obtain ⟨rfl, rfl, rfl⟩ := trodAll_nil r0
  obtain rfl : args = #[v0] := by cases args; simp_all
  obtain ⟨rfl, rfl⟩ := trodVars_none hV
  obtain ⟨a0, rfl, rfl, rfl, z0⟩ := open_int Try.underlying3 (hval 0 3 v0 rfl rfl) h0
  have w0 : LJ.inI64 a0 := by
    obtain ⟨_, e_, w_⟩ := LJ.conf_i64 (.int z0)
    cases e_
    exact w_
  clear hA0 hval0 hsz0 hsz
  have hr := LJ.Reps.all (F := fun b => b < W.heap.size) (N := ⟨fun _ => 0, fun _ => undef⟩) (w := W) (LJ.Reps.cons (.d (.int (k := .i64) (n := a0))) LJ.Reps.nil)
  refine ((Go.Proofs.Ytcnfbifekdmacaa.W.law15_ExecPure_0 a0 (LJ.ExecPure_pure a0)).walk (fun b => b < W.heap.size) W [.int .i64 a0] (fun b hb => hb) (fun g cs h => (LJ.gget_nil h).elim) hr.1 hr.2).mono fun e W' ⟨he, bel⟩ => ?_
  subst he
  exact ⟨_, rfl, _, _, _, [], _, [], hW', trodAll_mk1 (shut_bool Try.underlying4 _), (trodAll_cons_mk (shut_int Try.underlying3 z0) trodAll_mk0), rfl, bel.frame _, fun h => by cases h⟩
theorem over : Rows.execPureRow.holds Try.pinned (OpenSpec.ofChange Rows.execPureSpec) :=
  OpenClaim.holds_of_wide 6 Try.f6 rfl rfl rfl rfl rfl rfl rfl ⟨rfl, rfl, rfl, rfl, rfl⟩ rfl rfl rfl rfl rfl (by kernel_rfl) Try.func6 (by kernel_rfl)
    (of_decide_eq_true (by kernel_rfl)) (by unfold Func.isWrapper; first | (rw [if_pos (by decide +kernel)]; kernel_rfl) | (rw [if_neg (by decide +kernel)]; exact ⟨rfl, rfl⟩))
    (fun os started H enc _ => lifted os started H enc)
theorem proved : Rows.ExecPureSaid := over
#print axioms proved
end Go.Proofs.Ytcnfbifekdmacaa.execPure
namespace Go.Proofs.Ytcnfbifekdmacaa
/-- The row, under a short name, for the claim. -/
theorem execPure_holds : Rows.ExecPureSaid := execPure.proved
end Go.Proofs.Ytcnfbifekdmacaa
