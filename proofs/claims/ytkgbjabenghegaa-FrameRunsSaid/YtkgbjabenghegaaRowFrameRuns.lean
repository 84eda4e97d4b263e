/- The law FrameRuns: for every input its call returns true, and the arguments read as before. No condition of my own. -/
import Derived.Test.YtkgbjabenghegaaRows
import Derived.Test.YtkgbjabenghegaaXLaid
import Derived.Test.YtkgbjabenghegaaF14C
import Derived.Test.YtkgbjabenghegaaWF
import Derived.Test.YtkgbjabenghegaaCF
import Derived.WalkKit
import Derived.ProofKit
import Derived.OpenShut
import Derived.ShutString
import Derived.ChangeOld
import Derived.Below
import Derived.SizedLaws
import Derived.Carry
namespace Go.Proofs.Ytkgbjabenghegaa.frameRuns
open Go.ChangeShapes Go.WideShapes Go.ChangeAt Go.RowKit
open Go.ChangeMaps (open_string shut_string)
set_option linter.unusedVariables false
set_option linter.unusedSimpArgs false
theorem own : ownKnob Try.prog.godebug = none := by kernel_rfl
theorem laidOut : laidOutB Try.prog = true := by kernel_rfl
set_option maxRecDepth 100000 in
theorem lifted (os : Os) (started : os.Started) (H : Type) (enc : TypeId × Value → H) :
    ReturnsInHanded {} Try.checked os 3 .any (Rows.frameRunsSpec.pre6 enc Try.prog Try.f3 Rows.frameRunsRow.domain false) (Rows.frameRunsSpec.post enc Try.prog Try.f3 false true false false) := by
  refine returnsInHanded_of_change_sized (C := Try.checked) own started (by kernel_rfl) Try.func3
    (ChangeSpec.witness6 (enc := enc) (C := Try.checked) false ⟨#[], #[.int .i64 0, .slice none 0 0], []⟩ 8 (by kernel_rfl) (by kernel_rfl) (by kernel_rfl) (by kernel_rfl)) ?_
  intro W base args ds gs before hval0 hW hcnd hsz0 _
  have hsz : (DataW.weightsEach Try.prog (Try.f3.params.toList ++ Rows.frameRunsSpec.plain.varTypes Try.prog) (ds ++ gs)).all (· ≤ reachBytes) = true := hsz0
  have hval : ∀ (j : Nat) t v, Try.f3.params[j]? = some t → args[j]? = some v → Value.okWide Try.prog W .any base t v := hval0
  have hW' := hW
  obtain ⟨p, q, hA0, hV, rfl, hfz, hnd⟩ := hW
  have hA : DataW.TrodAll enc Try.prog W 0 (fun _ => true) true Try.f3.params.toList args.toList ds p := hA0
  rw [Try.params3] at hA hval hsz
  have hlt := hA.lt
  obtain ⟨v0, vs0, d0, ds0, p0, q0, hargs, rfl, rfl, h0, r0⟩ := trodAll_cons hA
  obtain ⟨v1, vs1, d1, ds1, p1, q1, rfl, rfl, rfl, h1, r1⟩ := trodAll_cons r0
  obtain ⟨rfl, rfl, rfl⟩ := trodAll_nil r1
  obtain rfl : args = #[v0, v1] := by cases args; simp_all
  obtain ⟨rfl, rfl⟩ := trodVars_none hV
  obtain ⟨a0, rfl, rfl, rfl, z0⟩ := open_int Try.underlying3 (hval 0 3 v0 rfl rfl) h0
  have w0 : LJ.inI64 a0 := by
    obtain ⟨_, e_, w_⟩ := LJ.conf_i64 (.int z0)
    cases e_
    exact w_
  obtain ⟨b1, l1, c1, rfl⟩ := okWide_slice Try.underlying22 (hval 1 22 v1 rfl rfl)
  obtain ⟨x1, e1, k1⟩ := LJ.open_one 5 (k := .slice [.int .i64, .int .i64, .int .i64]) (by kernel_rfl) rfl h1
  obtain ⟨a1, y1, w1, le1⟩ := LJ.conf_slice LJ.enc_ref14_Op LJ.wf_ref14_Op LJ.conf_ref14_Op k1
  clear hA0 hval0 hsz0 hsz
  have hr := LJ.Reps.all (F := fun b => b < W.heap.size) (N := ⟨fun _ => 0, fun _ => undef⟩) (w := W) (LJ.Reps.cons (.d (.int (k := .i64) (n := a0))) (LJ.Reps.cons (.d (le1 _ _ _ e1)) LJ.Reps.nil))
  refine ((Go.Proofs.Ytkgbjabenghegaa.W.law14_FrameRuns_0 a0 a1 (LJ.FrameRuns_pure a0 a1)).walk (fun b => b < W.heap.size) W [.int .i64 a0, .slice b1 l1 c1] (fun b hb => hb) (fun g cs h => (LJ.gget_nil h).elim) hr.1 hr.2).mono fun e W' ⟨he, bel⟩ => ?_
  subst he
  exact ⟨_, rfl, _, _, _, [], _, [], hW', trodAll_mk1 (shut_bool Try.underlying4 _), (trodAll_cons_mk (shut_int Try.underlying3 z0) (trodAll_cons_mk (Below.trod laidOut (by kernel_rfl) (of_decide_eq_true (by kernel_rfl)) h1 bel (fun x hx => hlt x (by simp [hx]))) trodAll_mk0)), rfl, bel.frame _, fun h => by cases h⟩
theorem over : Rows.frameRunsRow.holds Try.pinned (OpenSpec.ofChange Rows.frameRunsSpec) :=
  OpenClaim.holds_of_wide 3 Try.f3 rfl rfl rfl rfl rfl rfl rfl ⟨rfl, rfl, rfl, rfl, rfl⟩ rfl rfl rfl rfl rfl (by kernel_rfl) Try.func3 (by kernel_rfl)
    (of_decide_eq_true (by kernel_rfl)) (by unfold Func.isWrapper; first | (rw [if_pos (by decide +kernel)]; kernel_rfl) | (rw [if_neg (by decide +kernel)]; exact ⟨rfl, rfl⟩))
    (fun os started H enc _ => lifted os started H enc)
theorem proved : Rows.FrameRunsSaid := over
#print axioms proved
end Go.Proofs.Ytkgbjabenghegaa.frameRuns
namespace Go.Proofs.Ytkgbjabenghegaa
/-- The row, under a short name, for the claim. -/
theorem frameRuns_holds : Rows.FrameRunsSaid := frameRuns.proved
end Go.Proofs.Ytkgbjabenghegaa
