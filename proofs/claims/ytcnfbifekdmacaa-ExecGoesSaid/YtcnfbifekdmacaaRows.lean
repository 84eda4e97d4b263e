/-
  No cell of these rows narrows 'for every input' (looked for: loops, veiled, ifaces, maps, wideKeys, modest, calm, conditions, laid).
  DERIVED. THE GIVEN ROWS OF THIS SEAT. 4 by the template 'for every input the law returns true; each argument reads behind the call as it read before'; 0 by the template 'total and deterministic' (their statements: YtcnfbifekdmacaaTotals.lean).
  GIVEN WITH THE SEED: the statements are not yours to turn. If you find one false, say at which input.
  Laid BY PROGRAM, IN A SANDBOX (cutbox-rows.mjs): the forced cells as the released guide's own fill.sh prints them over the translation 102a55c983ab81f9… (all of the seat's roots in one cut). By AI agents, Wed Nov 11 2026. No macro, syntax, notation, axiom, sorry.
-/
import Derived.Test.YtcnfbifekdmacaaChecked
import GoSem.Claim
import GoSem.ClaimJoined
import GoSem.ClaimMapViews
import Derived.JoinedTies
import Derived.KernelRfl
namespace Go.Proofs.Ytcnfbifekdmacaa
/- THE CELL 'sum', in the pinned program and in every row, IS THE sha256 OF THE DUMP (.gsa) THAT YtcnfbifekdmacaaProg.lean LOADS. Nothing in Lean hashes anything: it is a label: what it is worth is what the hold of that sum in a sandbox is worth. -/
noncomputable def Try.pinned : Pinned := { name := "ytcnfbifekdmacaa", sum := "102a55c983ab81f9b39d45c58c6f92edb0c9566bdebfba5c2051c13342b39f62", checked := Try.checked }
namespace Rows
def none {H : Type} : Left H := { results := [], args := [] }

/-- 'logjamlaw15.ExecDoes': WHATEVER THE INPUT: true; the input reads as it did. -/
def execDoesSpec : ChangeSpec := { name := "execDoes", fn := fun _ => fun
  | [d1, d2] => { results := [.lit (.bool true)], args := [d1, d2] }
  | _ => none }
def execDoesRow : OpenClaim := { program := "ytcnfbifekdmacaa", sum := "102a55c983ab81f9b39d45c58c6f92edb0c9566bdebfba5c2051c13342b39f62", func := "logjam/logjamlaw15.ExecDoes", spec := "execDoes", apart := false }
def ExecDoesSaid : Prop := execDoesRow.holds Try.pinned (OpenSpec.ofChange execDoesSpec)

/-- ITS FALSE NEIGHBOUR: 'it returns false'. Refute it at one input. -/
def execDoesWrong : ChangeSpec := { name := "execDoes", fn := fun _ => fun
  | [d1, d2] => { results := [.lit (.bool false)], args := [d1, d2] }
  | _ => none }
def ExecDoesWrongFalsely : Prop := execDoesRow.holds Try.pinned (OpenSpec.ofChange execDoesWrong)

/-- 'logjamlaw15.ExecGoes': WHATEVER THE INPUT: true; the input reads as it did. -/
def execGoesSpec : ChangeSpec := { name := "execGoes", fn := fun _ => fun
  | [d1, d2] => { results := [.lit (.bool true)], args := [d1, d2] }
  | _ => none }
def execGoesRow : OpenClaim := { program := "ytcnfbifekdmacaa", sum := "102a55c983ab81f9b39d45c58c6f92edb0c9566bdebfba5c2051c13342b39f62", func := "logjam/logjamlaw15.ExecGoes", spec := "execGoes", apart := false }
def ExecGoesSaid : Prop := execGoesRow.holds Try.pinned (OpenSpec.ofChange execGoesSpec)

/-- ITS FALSE NEIGHBOUR: 'it returns false'. Refute it at one input. -/
def execGoesWrong : ChangeSpec := { name := "execGoes", fn := fun _ => fun
  | [d1, d2] => { results := [.lit (.bool false)], args := [d1, d2] }
  | _ => none }
def ExecGoesWrongFalsely : Prop := execGoesRow.holds Try.pinned (OpenSpec.ofChange execGoesWrong)

/-- 'logjamlaw15.ExecOdd': WHATEVER THE INPUT: true; the input reads as it did. -/
def execOddSpec : ChangeSpec := { name := "execOdd", fn := fun _ => fun
  | [d1, d2, d3] => { results := [.lit (.bool true)], args := [d1, d2, d3] }
  | _ => none }
def execOddRow : OpenClaim := { program := "ytcnfbifekdmacaa", sum := "102a55c983ab81f9b39d45c58c6f92edb0c9566bdebfba5c2051c13342b39f62", func := "logjam/logjamlaw15.ExecOdd", spec := "execOdd", apart := false }
def ExecOddSaid : Prop := execOddRow.holds Try.pinned (OpenSpec.ofChange execOddSpec)

/-- ITS FALSE NEIGHBOUR: 'it returns false'. Refute it at one input. -/
def execOddWrong : ChangeSpec := { name := "execOdd", fn := fun _ => fun
  | [d1, d2, d3] => { results := [.lit (.bool false)], args := [d1, d2, d3] }
  | _ => none }
def ExecOddWrongFalsely : Prop := execOddRow.holds Try.pinned (OpenSpec.ofChange execOddWrong)

/-- 'logjamlaw15.ExecPure': WHATEVER THE INPUT: true; the input reads as it did. -/
def execPureSpec : ChangeSpec := { name := "execPure", fn := fun _ => fun
  | [d] => { results := [.lit (.bool true)], args := [d] }
  | _ => none }
def execPureRow : OpenClaim := { program := "ytcnfbifekdmacaa", sum := "102a55c983ab81f9b39d45c58c6f92edb0c9566bdebfba5c2051c13342b39f62", func := "logjam/logjamlaw15.ExecPure", spec := "execPure", apart := false }
def ExecPureSaid : Prop := execPureRow.holds Try.pinned (OpenSpec.ofChange execPureSpec)

/-- ITS FALSE NEIGHBOUR: 'it returns false'. Refute it at one input. -/
def execPureWrong : ChangeSpec := { name := "execPure", fn := fun _ => fun
  | [d] => { results := [.lit (.bool false)], args := [d] }
  | _ => none }
def ExecPureWrongFalsely : Prop := execPureRow.holds Try.pinned (OpenSpec.ofChange execPureWrong)

/- THE SECOND FORM. 'bulk': how many values and letters a reading holds, each counted each time it is reached (what is shared counts as often as it is met; a slice's spare places count too). A statement '..UptoSaid' is the law's where the arguments, and the package variables that the reading takes, are together of bulk at most 1048576: NARROWER than '..Said'. Prove '..Said' where nothing that the law and all that it calls make is longer than what came in: it says more and counts as full. Else prove '..UptoSaid'. A law counts once. -/
mutual
def uptoBulk {H : Type} : DataW H → Nat
  | .lit (.string bytes) => bytes.length + 1
  | .lit _ => 1
  | .nil => 1
  | .ptr d => uptoBulk d + 1
  | .slice elems spare => uptoBulkAll elems + uptoBulkAll spare + 1
  | .agg parts => uptoBulkAll parts + 1
  | .iface _ d => uptoBulk d + 1
  | .map entries => uptoBulkEntries entries + 1
  | .held _ => 1
def uptoBulkAll {H : Type} : List (DataW H) → Nat
  | [] => 0
  | d :: r => uptoBulk d + uptoBulkAll r
def uptoBulkEntries {H : Type} : List (Lit × DataW H) → Nat
  | [] => 0
  | x :: r => uptoBulkEntry x + uptoBulkEntries r
def uptoBulkEntry {H : Type} : Lit × DataW H → Nat
  | (.string bytes, d) => bytes.length + uptoBulk d + 1
  | (_, d) => uptoBulk d + 1
 end
def uptoSmall : (H : Type) → List (DataW H) → Bool := fun _ ds => decide (uptoBulkAll ds ≤ 1048576)
def OpenSpec.upto (s : _root_.Go.ChangeSpec) : _root_.Go.OpenSpec := { _root_.Go.OpenSpec.ofChange s with cond := some uptoSmall }

/-- 'logjamlaw15.ExecDoes', WHERE WHAT IT READS IS OF BULK AT MOST 1048576: true; the input reads as it did. -/
def execDoesUptoRow : OpenClaim := { program := "ytcnfbifekdmacaa", sum := "102a55c983ab81f9b39d45c58c6f92edb0c9566bdebfba5c2051c13342b39f62", func := "logjam/logjamlaw15.ExecDoes", spec := "execDoes", apart := false, narrowed := true }
def ExecDoesUptoSaid : Prop := execDoesUptoRow.holds Try.pinned (OpenSpec.upto execDoesSpec)

/-- 'logjamlaw15.ExecGoes', WHERE WHAT IT READS IS OF BULK AT MOST 1048576: true; the input reads as it did. -/
def execGoesUptoRow : OpenClaim := { program := "ytcnfbifekdmacaa", sum := "102a55c983ab81f9b39d45c58c6f92edb0c9566bdebfba5c2051c13342b39f62", func := "logjam/logjamlaw15.ExecGoes", spec := "execGoes", apart := false, narrowed := true }
def ExecGoesUptoSaid : Prop := execGoesUptoRow.holds Try.pinned (OpenSpec.upto execGoesSpec)

/-- 'logjamlaw15.ExecOdd', WHERE WHAT IT READS IS OF BULK AT MOST 1048576: true; the input reads as it did. -/
def execOddUptoRow : OpenClaim := { program := "ytcnfbifekdmacaa", sum := "102a55c983ab81f9b39d45c58c6f92edb0c9566bdebfba5c2051c13342b39f62", func := "logjam/logjamlaw15.ExecOdd", spec := "execOdd", apart := false, narrowed := true }
def ExecOddUptoSaid : Prop := execOddUptoRow.holds Try.pinned (OpenSpec.upto execOddSpec)

/-- 'logjamlaw15.ExecPure', WHERE WHAT IT READS IS OF BULK AT MOST 1048576: true; the input reads as it did. -/
def execPureUptoRow : OpenClaim := { program := "ytcnfbifekdmacaa", sum := "102a55c983ab81f9b39d45c58c6f92edb0c9566bdebfba5c2051c13342b39f62", func := "logjam/logjamlaw15.ExecPure", spec := "execPure", apart := false, narrowed := true }
def ExecPureUptoSaid : Prop := execPureUptoRow.holds Try.pinned (OpenSpec.upto execPureSpec)

end Rows
end Go.Proofs.Ytcnfbifekdmacaa
