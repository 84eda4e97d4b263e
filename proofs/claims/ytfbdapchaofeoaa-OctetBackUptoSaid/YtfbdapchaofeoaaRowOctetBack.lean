/- The law OctetBack: for every input its call returns true, and the arguments read as before. No condition of my own. -/
import Derived.Test.YtfbdapchaofeoaaRows
import Derived.Test.YtfbdapchaofeoaaWF
import Derived.Test.YtfbdapchaofeoaaL01W
import Derived.Test.YtfbdapchaofeoaaXTrodB
import Derived.WalkKit
import Derived.ProofKit
import Derived.OpenShut
import Derived.ShutString
import Derived.ChangeOld
import Derived.Below
import Derived.SizedLaws
import Derived.Carry
import Derived.JoinedCond
namespace Go.Proofs.Ytfbdapchaofeoaa.octetBack
open Go.ChangeShapes Go.WideShapes Go.ChangeAt Go.RowKit
open Go.ChangeMaps (open_string shut_string)
set_option linter.unusedVariables false
set_option linter.unusedSimpArgs false
theorem own : ownKnob Try.prog.godebug = none := by kernel_rfl
theorem laidOut : laidOutB Try.prog = true := by kernel_rfl
set_option maxRecDepth 100000 in
theorem lifted (os : Os) (started : os.Started) (H : Type) (enc : TypeId × Value → H) (F : Stop.Interp) :
    ReturnsInHanded {} Try.checked os 7 .any ((Rows.OpenSpec.upto Rows.octetBackSpec).pre6 enc Try.prog Try.f7 Rows.octetBackUptoRow.domain false) (((Rows.OpenSpec.upto Rows.octetBackSpec).at F).post enc Try.prog Try.f7 false true false false) := by
  refine returnsInHanded_of_cond (C := Try.checked) (s := (Rows.OpenSpec.upto Rows.octetBackSpec)) (k := Rows.uptoSmall) rfl own started (by kernel_rfl) Try.func7
    (OpenSpec.witness (enc := enc) (C := Try.checked) (s := (Rows.OpenSpec.upto Rows.octetBackSpec)) (k := Rows.uptoSmall) rfl false ⟨#[], #[.slice none 0 0, .string ByteArray.empty], []⟩ 8 (by kernel_rfl) (by kernel_rfl) (by kernel_rfl)
      (x := ([.nil, .lit (.string [])], [], [])) (by kernel_rfl) rfl (by kernel_rfl)) ?_
  intro W base args ds gs before hval0 hW hcnd hk _
  have hval : ∀ (j : Nat) t v, Try.f7.params[j]? = some t → args[j]? = some v → Value.okWide Try.prog W .any base t v := hval0
  have hW' := hW
  obtain ⟨p, q, hA0, hV, rfl, hfz, hnd⟩ := hW
  have hA : DataW.TrodAll enc Try.prog W 0 (fun _ => true) true Try.f7.params.toList args.toList ds p := hA0
  rw [Try.params7] at hA hval
  have hlt := hA.lt
  obtain ⟨v0, vs0, d0, ds0, p0, q0, hargs, rfl, rfl, h0, r0⟩ := trodAll_cons hA
  obtain ⟨v1, vs1, d1, ds1, p1, q1, rfl, rfl, rfl, h1, r1⟩ := trodAll_cons r0
  obtain ⟨rfl, rfl, rfl⟩ := trodAll_nil r1
  obtain rfl : args = #[v0, v1] := by cases args; simp_all
  obtain ⟨rfl, rfl⟩ := trodVars_none hV
  obtain ⟨b0, l0, c0, rfl⟩ := okWide_slice Try.underlying39 (hval 0 39 v0 rfl rfl)
  obtain ⟨x0, e0, k0⟩ := LJ.open_one 5 (k := .slice [.int .i64, .int .u64, .int .i64, .str]) (by kernel_rfl) rfl h0
  obtain ⟨a0, y0, w0, le0⟩ := LJ.conf_slice LJ.enc_ref01_Op LJ.wf_ref01_Op LJ.conf_ref01_Op k0
  obtain ⟨a1, rfl, rfl, rfl, y1⟩ := open_string Try.underlying9 (hval 1 9 v1 rfl rfl) h1
  have hk0 := LJ.bulk_bound hk
  simp only [List.cons_append, List.nil_append, List.append_nil, Rows.uptoBulkAll, Rows.uptoBulk] at hk0
  have hb0 : LJ.bulkL [LJ.slT LJ.enc_ref01_Op a0] ≤ Rows.uptoBulk d0 := LJ.arg_bulk 5 (ks := [.slice [.int .i64, .int .u64, .int .i64, .str]]) (by kernel_rfl) h0 (.cons (LJ.Shp.slT LJ.shp_ref01_Op) .nil) (LJ.RepL.of1 rfl (le0 _ _ _ e0))
  simp only [LJ.bulkL_cons, LJ.bulkL_nil] at hb0
  have hl1 : a1.data.toList.length = a1.size := rfl
  have wb : (LJ.slT LJ.enc_ref01_Op a0).bulk + (a1.size + 1) ≤ 1048576 := by omega
  clear hA0 hval0
  have hr := LJ.Reps.all (F := fun b => b < W.heap.size) (N := ⟨fun _ => 0, fun _ => undef⟩) (w := W) (LJ.Reps.cons (.d (le0 _ _ _ e0)) (LJ.Reps.cons (.d (.str (s := a1))) LJ.Reps.nil))
  refine ((Go.Proofs.Ytfbdapchaofeoaa.W.law01_OctetBack_0 a0 a1 (LJ.OctetBack_pure w0 (by omega))).walk (fun b => b < W.heap.size) W [.slice b0 l0 c0, .string a1] (fun b hb => hb) hr.1 hr.2).mono fun e W' ⟨he, bel⟩ => ?_
  subst he
  exact ⟨_, rfl, _, _, _, [], _, [], hW', trodAll_mk1 (shut_bool Try.underlying4 _), (trodAll_cons_mk (Below.trod laidOut (by kernel_rfl) (of_decide_eq_true (by kernel_rfl)) h0 bel (fun x hx => hlt x (by simp [hx]))) (trodAll_cons_mk (shut_string Try.underlying9 y1) trodAll_mk0)), rfl, bel.frame _, fun h => by cases h⟩
theorem over : Rows.octetBackUptoRow.holds Try.pinned (Rows.OpenSpec.upto Rows.octetBackSpec) :=
  OpenClaim.holds_of_cond 7 Try.f7 rfl rfl rfl rfl rfl rfl rfl ⟨rfl, rfl, rfl, rfl, rfl⟩ rfl rfl rfl rfl rfl (by kernel_rfl) Try.func7 (by kernel_rfl)
    (of_decide_eq_true (by kernel_rfl)) (by unfold Func.isWrapper; first | (rw [if_pos (by decide +kernel)]; kernel_rfl) | (rw [if_neg (by decide +kernel)]; exact ⟨rfl, rfl⟩))
    (fun os started H enc _ F => lifted os started H enc F)
theorem proved : Rows.OctetBackUptoSaid := over
#print axioms proved
end Go.Proofs.Ytfbdapchaofeoaa.octetBack
namespace Go.Proofs.Ytfbdapchaofeoaa
/-- The row, under a short name, for the claim. -/
theorem octetBackUpto_holds : Rows.OctetBackUptoSaid := octetBack.proved
end Go.Proofs.Ytfbdapchaofeoaa
