/-
  No cell of these rows narrows 'for every input' (looked for: loops, veiled, ifaces, maps, wideKeys, modest, calm, conditions, laid).
  DERIVED. THE GIVEN ROWS OF THIS SEAT. 2 by the template 'for every input the law returns true; each argument reads behind the call as it read before'; 0 by the template 'total and deterministic' (their statements: YtmagenmamdgjaaaTotals.lean).
  GIVEN WITH THE SEED: the statements are not yours to turn. If you find one false, say at which input.
  Laid BY PROGRAM, IN A SANDBOX (cutbox-rows.mjs): the forced cells as the released guide's own fill.sh prints them over the translation 7e60c75b4c62aa4e… (all of the seat's roots in one cut). By AI agents, Wed Nov 11 2026. No macro, syntax, notation, axiom, sorry.
-/
import Derived.Test.YtmagenmamdgjaaaChecked
import GoSem.Claim
import GoSem.ClaimJoined
import GoSem.ClaimMapViews
import Derived.JoinedTies
import Derived.KernelRfl
namespace Go.Proofs.Ytmagenmamdgjaaa
/- THE CELL 'sum', in the pinned program and in every row, IS THE sha256 OF THE DUMP (.gsa) THAT YtmagenmamdgjaaaProg.lean LOADS. Nothing in Lean hashes anything: it is a label: what it is worth is what the hold of that sum in a sandbox is worth. -/
noncomputable def Try.pinned : Pinned := { name := "ytmagenmamdgjaaa", sum := "7e60c75b4c62aa4e4ecbd8625115d3bbda65066d307983e193ee61c1116ba0b7", checked := Try.checked }
namespace Rows
def none {H : Type} : Left H := { results := [], args := [] }

/-- 'logjamlaw11.DepthHolds': WHATEVER THE INPUT: true; the input reads as it did. -/
def depthHoldsSpec : ChangeSpec := { name := "depthHolds", fn := fun _ => fun
  | [d1, d2, d3] => { results := [.lit (.bool true)], args := [d1, d2, d3] }
  | _ => none }
def depthHoldsRow : OpenClaim := { program := "ytmagenmamdgjaaa", sum := "7e60c75b4c62aa4e4ecbd8625115d3bbda65066d307983e193ee61c1116ba0b7", func := "logjam/logjamlaw11.DepthHolds", spec := "depthHolds", apart := false }
def DepthHoldsSaid : Prop := depthHoldsRow.holds Try.pinned (OpenSpec.ofChange depthHoldsSpec)

/-- ITS FALSE NEIGHBOUR: 'it returns false'. Refute it at one input. -/
def depthHoldsWrong : ChangeSpec := { name := "depthHolds", fn := fun _ => fun
  | [d1, d2, d3] => { results := [.lit (.bool false)], args := [d1, d2, d3] }
  | _ => none }
def DepthHoldsWrongFalsely : Prop := depthHoldsRow.holds Try.pinned (OpenSpec.ofChange depthHoldsWrong)

/-- 'logjamlaw11.DepthMost': WHATEVER THE INPUT: true; the input reads as it did. -/
def depthMostSpec : ChangeSpec := { name := "depthMost", fn := fun _ => fun
  | [d] => { results := [.lit (.bool true)], args := [d] }
  | _ => none }
def depthMostRow : OpenClaim := { program := "ytmagenmamdgjaaa", sum := "7e60c75b4c62aa4e4ecbd8625115d3bbda65066d307983e193ee61c1116ba0b7", func := "logjam/logjamlaw11.DepthMost", spec := "depthMost", apart := false }
def DepthMostSaid : Prop := depthMostRow.holds Try.pinned (OpenSpec.ofChange depthMostSpec)

/-- ITS FALSE NEIGHBOUR: 'it returns false'. Refute it at one input. -/
def depthMostWrong : ChangeSpec := { name := "depthMost", fn := fun _ => fun
  | [d] => { results := [.lit (.bool false)], args := [d] }
  | _ => none }
def DepthMostWrongFalsely : Prop := depthMostRow.holds Try.pinned (OpenSpec.ofChange depthMostWrong)

/- THE SECOND FORM. 'bulk': how many values and letters a reading holds, each counted each time it is reached (what is shared counts as often as it is met; a slice's spare places count too). A statement '..UptoSaid' is the law's where the arguments, and the package variables that the reading takes, are together of bulk at most 1048576: NARROWER than '..Said'. Prove '..Said' where nothing that the law and all that it calls make is longer than what came in: it says more and counts as full. Else prove '..UptoSaid'. A law counts once. -/
mutual
def uptoBulk {H : Type} : DataW H → Nat
  | .lit (.string bytes) => bytes.length + 1
  | .lit _ => 1
  | .nil => 1
  | .ptr d => uptoBulk d + 1
  | .slice elems spare => uptoBulkAll elems + uptoBulkAll spare + 1
  | .agg parts => uptoBulkAll parts + 1
  | .iface _ d => uptoBulk d + 1
  | .map entries => uptoBulkEntries entries + 1
  | .held _ => 1
def uptoBulkAll {H : Type} : List (DataW H) → Nat
  | [] => 0
  | d :: r => uptoBulk d + uptoBulkAll r
def uptoBulkEntries {H : Type} : List (Lit × DataW H) → Nat
  | [] => 0
  | x :: r => uptoBulkEntry x + uptoBulkEntries r
def uptoBulkEntry {H : Type} : Lit × DataW H → Nat
  | (.string bytes, d) => bytes.length + uptoBulk d + 1
  | (_, d) => uptoBulk d + 1
 end
def uptoSmall : (H : Type) → List (DataW H) → Bool := fun _ ds => decide (uptoBulkAll ds ≤ 1048576)
def OpenSpec.upto (s : _root_.Go.ChangeSpec) : _root_.Go.OpenSpec := { _root_.Go.OpenSpec.ofChange s with cond := some uptoSmall }

/-- 'logjamlaw11.DepthHolds', WHERE WHAT IT READS IS OF BULK AT MOST 1048576: true; the input reads as it did. -/
def depthHoldsUptoRow : OpenClaim := { program := "ytmagenmamdgjaaa", sum := "7e60c75b4c62aa4e4ecbd8625115d3bbda65066d307983e193ee61c1116ba0b7", func := "logjam/logjamlaw11.DepthHolds", spec := "depthHolds", apart := false, narrowed := true }
def DepthHoldsUptoSaid : Prop := depthHoldsUptoRow.holds Try.pinned (OpenSpec.upto depthHoldsSpec)

/-- 'logjamlaw11.DepthMost', WHERE WHAT IT READS IS OF BULK AT MOST 1048576: true; the input reads as it did. -/
def depthMostUptoRow : OpenClaim := { program := "ytmagenmamdgjaaa", sum := "7e60c75b4c62aa4e4ecbd8625115d3bbda65066d307983e193ee61c1116ba0b7", func := "logjam/logjamlaw11.DepthMost", spec := "depthMost", apart := false, narrowed := true }
def DepthMostUptoSaid : Prop := depthMostUptoRow.holds Try.pinned (OpenSpec.upto depthMostSpec)

end Rows
end Go.Proofs.Ytmagenmamdgjaaa
