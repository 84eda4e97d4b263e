/-
  No cell of these rows narrows 'for every input' (looked for: loops, veiled, ifaces, maps, wideKeys, modest, calm, conditions, laid).
  DERIVED. THE GIVEN ROWS OF THIS SEAT. 5 by the template 'for every input the law returns true; each argument reads behind the call as it read before'; 0 by the template 'total and deterministic' (their statements: YthcinpgklihaoaaTotals.lean).
  GIVEN WITH THE SEED: the statements are not yours to turn. If you find one false, say at which input.
  Laid BY PROGRAM, IN A SANDBOX (cutbox-rows.mjs): the forced cells as the released guide's own fill.sh prints them over the translation 7a0041ee7338dfe6… (all of the seat's roots in one cut). By AI agents, Wed Nov 11 2026. No macro, syntax, notation, axiom, sorry.
-/
import Derived.Test.YthcinpgklihaoaaChecked
import GoSem.Claim
import GoSem.ClaimJoined
import GoSem.ClaimMapViews
import Derived.JoinedTies
import Derived.KernelRfl
namespace Go.Proofs.Ythcinpgklihaoaa
/- THE CELL 'sum', in the pinned program and in every row, IS THE sha256 OF THE DUMP (.gsa) THAT YthcinpgklihaoaaProg.lean LOADS. Nothing in Lean hashes anything: it is a label: what it is worth is what the hold of that sum in a sandbox is worth. -/
noncomputable def Try.pinned : Pinned := { name := "ythcinpgklihaoaa", sum := "7a0041ee7338dfe63391a6fb80d639cf5c62a2efa56264239d689f251480c438", checked := Try.checked }
namespace Rows
def none {H : Type} : Left H := { results := [], args := [] }

/-- 'logjamlaw08.DeclChecks': WHATEVER THE INPUT: true; the input reads as it did. -/
def declChecksSpec : ChangeSpec := { name := "declChecks", fn := fun _ => fun
  | [d] => { results := [.lit (.bool true)], args := [d] }
  | _ => none }
def declChecksRow : OpenClaim := { program := "ythcinpgklihaoaa", sum := "7a0041ee7338dfe63391a6fb80d639cf5c62a2efa56264239d689f251480c438", func := "logjam/logjamlaw08.DeclChecks", spec := "declChecks", apart := false }
def DeclChecksSaid : Prop := declChecksRow.holds Try.pinned (OpenSpec.ofChange declChecksSpec)

/-- ITS FALSE NEIGHBOUR: 'it returns false'. Refute it at one input. -/
def declChecksWrong : ChangeSpec := { name := "declChecks", fn := fun _ => fun
  | [d] => { results := [.lit (.bool false)], args := [d] }
  | _ => none }
def DeclChecksWrongFalsely : Prop := declChecksRow.holds Try.pinned (OpenSpec.ofChange declChecksWrong)

/-- 'logjamlaw08.DeclGets': WHATEVER THE INPUT: true; the input reads as it did. -/
def declGetsSpec : ChangeSpec := { name := "declGets", fn := fun _ => fun
  | [d] => { results := [.lit (.bool true)], args := [d] }
  | _ => none }
def declGetsRow : OpenClaim := { program := "ythcinpgklihaoaa", sum := "7a0041ee7338dfe63391a6fb80d639cf5c62a2efa56264239d689f251480c438", func := "logjam/logjamlaw08.DeclGets", spec := "declGets", apart := false }
def DeclGetsSaid : Prop := declGetsRow.holds Try.pinned (OpenSpec.ofChange declGetsSpec)

/-- ITS FALSE NEIGHBOUR: 'it returns false'. Refute it at one input. -/
def declGetsWrong : ChangeSpec := { name := "declGets", fn := fun _ => fun
  | [d] => { results := [.lit (.bool false)], args := [d] }
  | _ => none }
def DeclGetsWrongFalsely : Prop := declGetsRow.holds Try.pinned (OpenSpec.ofChange declGetsWrong)

/-- 'logjamlaw08.DeclBack': WHATEVER THE INPUT: true; the input reads as it did. -/
def declBackSpec : ChangeSpec := { name := "declBack", fn := fun _ => fun
  | [d1, d2] => { results := [.lit (.bool true)], args := [d1, d2] }
  | _ => none }
def declBackRow : OpenClaim := { program := "ythcinpgklihaoaa", sum := "7a0041ee7338dfe63391a6fb80d639cf5c62a2efa56264239d689f251480c438", func := "logjam/logjamlaw08.DeclBack", spec := "declBack", apart := false }
def DeclBackSaid : Prop := declBackRow.holds Try.pinned (OpenSpec.ofChange declBackSpec)

/-- ITS FALSE NEIGHBOUR: 'it returns false'. Refute it at one input. -/
def declBackWrong : ChangeSpec := { name := "declBack", fn := fun _ => fun
  | [d1, d2] => { results := [.lit (.bool false)], args := [d1, d2] }
  | _ => none }
def DeclBackWrongFalsely : Prop := declBackRow.holds Try.pinned (OpenSpec.ofChange declBackWrong)

/-- 'logjamlaw08.DeclOnce': WHATEVER THE INPUT: true; the input reads as it did. -/
def declOnceSpec : ChangeSpec := { name := "declOnce", fn := fun _ => fun
  | [d] => { results := [.lit (.bool true)], args := [d] }
  | _ => none }
def declOnceRow : OpenClaim := { program := "ythcinpgklihaoaa", sum := "7a0041ee7338dfe63391a6fb80d639cf5c62a2efa56264239d689f251480c438", func := "logjam/logjamlaw08.DeclOnce", spec := "declOnce", apart := false }
def DeclOnceSaid : Prop := declOnceRow.holds Try.pinned (OpenSpec.ofChange declOnceSpec)

/-- ITS FALSE NEIGHBOUR: 'it returns false'. Refute it at one input. -/
def declOnceWrong : ChangeSpec := { name := "declOnce", fn := fun _ => fun
  | [d] => { results := [.lit (.bool false)], args := [d] }
  | _ => none }
def DeclOnceWrongFalsely : Prop := declOnceRow.holds Try.pinned (OpenSpec.ofChange declOnceWrong)

/-- 'logjamlaw08.DeclFits': WHATEVER THE INPUT: true; the input reads as it did. -/
def declFitsSpec : ChangeSpec := { name := "declFits", fn := fun _ => fun
  | [d1, d2, d3] => { results := [.lit (.bool true)], args := [d1, d2, d3] }
  | _ => none }
def declFitsRow : OpenClaim := { program := "ythcinpgklihaoaa", sum := "7a0041ee7338dfe63391a6fb80d639cf5c62a2efa56264239d689f251480c438", func := "logjam/logjamlaw08.DeclFits", spec := "declFits", apart := false }
def DeclFitsSaid : Prop := declFitsRow.holds Try.pinned (OpenSpec.ofChange declFitsSpec)

/-- ITS FALSE NEIGHBOUR: 'it returns false'. Refute it at one input. -/
def declFitsWrong : ChangeSpec := { name := "declFits", fn := fun _ => fun
  | [d1, d2, d3] => { results := [.lit (.bool false)], args := [d1, d2, d3] }
  | _ => none }
def DeclFitsWrongFalsely : Prop := declFitsRow.holds Try.pinned (OpenSpec.ofChange declFitsWrong)

/- THE SECOND FORM. 'bulk': how many values and letters a reading holds, each counted each time it is reached (what is shared counts as often as it is met; a slice's spare places count too). A statement '..UptoSaid' is the law's where the arguments, and the package variables that the reading takes, are together of bulk at most 1048576: NARROWER than '..Said'. Prove '..Said' where nothing that the law and all that it calls make is longer than what came in: it says more and counts as full. Else prove '..UptoSaid'. A law counts once. -/
mutual
def uptoBulk {H : Type} : DataW H → Nat
  | .lit (.string bytes) => bytes.length + 1
  | .lit _ => 1
  | .nil => 1
  | .ptr d => uptoBulk d + 1
  | .slice elems spare => uptoBulkAll elems + uptoBulkAll spare + 1
  | .agg parts => uptoBulkAll parts + 1
  | .iface _ d => uptoBulk d + 1
  | .map entries => uptoBulkEntries entries + 1
  | .held _ => 1
def uptoBulkAll {H : Type} : List (DataW H) → Nat
  | [] => 0
  | d :: r => uptoBulk d + uptoBulkAll r
def uptoBulkEntries {H : Type} : List (Lit × DataW H) → Nat
  | [] => 0
  | x :: r => uptoBulkEntry x + uptoBulkEntries r
def uptoBulkEntry {H : Type} : Lit × DataW H → Nat
  | (.string bytes, d) => bytes.length + uptoBulk d + 1
  | (_, d) => uptoBulk d + 1
 end
def uptoSmall : (H : Type) → List (DataW H) → Bool := fun _ ds => decide (uptoBulkAll ds ≤ 1048576)
def OpenSpec.upto (s : _root_.Go.ChangeSpec) : _root_.Go.OpenSpec := { _root_.Go.OpenSpec.ofChange s with cond := some uptoSmall }

/-- 'logjamlaw08.DeclChecks', WHERE WHAT IT READS IS OF BULK AT MOST 1048576: true; the input reads as it did. -/
def declChecksUptoRow : OpenClaim := { program := "ythcinpgklihaoaa", sum := "7a0041ee7338dfe63391a6fb80d639cf5c62a2efa56264239d689f251480c438", func := "logjam/logjamlaw08.DeclChecks", spec := "declChecks", apart := false, narrowed := true }
def DeclChecksUptoSaid : Prop := declChecksUptoRow.holds Try.pinned (OpenSpec.upto declChecksSpec)

/-- 'logjamlaw08.DeclGets', WHERE WHAT IT READS IS OF BULK AT MOST 1048576: true; the input reads as it did. -/
def declGetsUptoRow : OpenClaim := { program := "ythcinpgklihaoaa", sum := "7a0041ee7338dfe63391a6fb80d639cf5c62a2efa56264239d689f251480c438", func := "logjam/logjamlaw08.DeclGets", spec := "declGets", apart := false, narrowed := true }
def DeclGetsUptoSaid : Prop := declGetsUptoRow.holds Try.pinned (OpenSpec.upto declGetsSpec)

/-- 'logjamlaw08.DeclBack', WHERE WHAT IT READS IS OF BULK AT MOST 1048576: true; the input reads as it did. -/
def declBackUptoRow : OpenClaim := { program := "ythcinpgklihaoaa", sum := "7a0041ee7338dfe63391a6fb80d639cf5c62a2efa56264239d689f251480c438", func := "logjam/logjamlaw08.DeclBack", spec := "declBack", apart := false, narrowed := true }
def DeclBackUptoSaid : Prop := declBackUptoRow.holds Try.pinned (OpenSpec.upto declBackSpec)

/-- 'logjamlaw08.DeclOnce', WHERE WHAT IT READS IS OF BULK AT MOST 1048576: true; the input reads as it did. -/
def declOnceUptoRow : OpenClaim := { program := "ythcinpgklihaoaa", sum := "7a0041ee7338dfe63391a6fb80d639cf5c62a2efa56264239d689f251480c438", func := "logjam/logjamlaw08.DeclOnce", spec := "declOnce", apart := false, narrowed := true }
def DeclOnceUptoSaid : Prop := declOnceUptoRow.holds Try.pinned (OpenSpec.upto declOnceSpec)

/-- 'logjamlaw08.DeclFits', WHERE WHAT IT READS IS OF BULK AT MOST 1048576: true; the input reads as it did. -/
def declFitsUptoRow : OpenClaim := { program := "ythcinpgklihaoaa", sum := "7a0041ee7338dfe63391a6fb80d639cf5c62a2efa56264239d689f251480c438", func := "logjam/logjamlaw08.DeclFits", spec := "declFits", apart := false, narrowed := true }
def DeclFitsUptoSaid : Prop := declFitsUptoRow.holds Try.pinned (OpenSpec.upto declFitsSpec)

end Rows
end Go.Proofs.Ythcinpgklihaoaa
