/-
  DERIVED. GIVEN WITH THE SEED: THE CARDS: each row of YtdeekbpniinmbaaDoorRows.lean that lists a variable, with what it lists TIED to the program's text (the seventh form; the later family's looks); each row that meets fmt, with fmt's text TOLD by the authors' own Lean function (tested against real Go, not proved from fmt's source: count such statements apart). THE CARD IS WHAT COUNTS. Prove the row's statement (the work); the ties are given (YtdeekbpniinmbaaDoorTie.lean); close each card by the builder's one call (the guide's Derived/Test/ToyasCard.lean, 'card_holds'). Laid BY PROGRAM, IN A SANDBOX (cutbox-door.mjs). By AI agents, Wed Nov 11 2026. No macro, syntax, notation, axiom, sorry.
-/
import Derived.Test.YtdeekbpniinmbaaDoorRows
import GoSem.ClaimSeven
namespace Go.Proofs.YtdeekbpniinmbaaDoor
namespace Rows

/-- THE TIED CARD OF 'logjamlaw10.ProgChecks'. -/
def progChecksCard : Claim7 := { stood := { row := progChecksRow, standIns := [], harness := (true, "1c4e06d9de52b84dee05a0ec2ad6d02fac7835e851d66de92282567ef239154f"), looks := true }, kinds := [], alts := [], laidByText := true, laidKinds := [.listed, .data], laidTests := true, laidLooks := .later }
def ProgChecksCardSaid : Prop := Claim7.holds Tryd.pinned (.plain (OpenSpec.ofChange progChecksSpec)) progChecksCard

/-- THE TIED CARD OF 'logjamlaw10.ProgGets'. -/
def progGetsCard : Claim7 := { stood := { row := progGetsRow, standIns := [], harness := (true, "1c4e06d9de52b84dee05a0ec2ad6d02fac7835e851d66de92282567ef239154f"), looks := true }, kinds := [], alts := [], laidByText := true, laidKinds := [.listed, .data], laidTests := true, laidLooks := .later }
def ProgGetsCardSaid : Prop := Claim7.holds Tryd.pinned (.plain (OpenSpec.ofChange progGetsSpec)) progGetsCard

/-- THE TIED CARD OF 'logjamlaw10.ProgBack'. -/
def progBackCard : Claim7 := { stood := { row := progBackRow, standIns := [], harness := (true, "1c4e06d9de52b84dee05a0ec2ad6d02fac7835e851d66de92282567ef239154f"), looks := true }, kinds := [], alts := [], laidByText := true, laidKinds := [.listed, .data], laidTests := true, laidLooks := .later }
def ProgBackCardSaid : Prop := Claim7.holds Tryd.pinned (.plain (OpenSpec.ofChange progBackSpec)) progBackCard

/-- THE TIED CARD OF 'logjamlaw10.ProgOnce'. -/
def progOnceCard : Claim7 := { stood := { row := progOnceRow, standIns := [], harness := (true, "1c4e06d9de52b84dee05a0ec2ad6d02fac7835e851d66de92282567ef239154f"), looks := true }, kinds := [], alts := [], laidByText := true, laidKinds := [.listed, .data], laidTests := true, laidLooks := .later }
def ProgOnceCardSaid : Prop := Claim7.holds Tryd.pinned (.plain (OpenSpec.ofChange progOnceSpec)) progOnceCard

/-- THE SECOND FORM's CARD OF 'logjamlaw10.ProgChecks'. -/
def progChecksUptoCard : Claim7 := { stood := { row := progChecksUptoRow, standIns := [], harness := (true, "1c4e06d9de52b84dee05a0ec2ad6d02fac7835e851d66de92282567ef239154f"), looks := true }, kinds := [], alts := [], laidByText := true, laidKinds := [.listed, .data], laidTests := true, laidLooks := .later }
def ProgChecksUptoCardSaid : Prop := Claim7.holds Tryd.pinned (.plain (OpenSpec.upto progChecksSpec)) progChecksUptoCard

/-- THE SECOND FORM's CARD OF 'logjamlaw10.ProgGets'. -/
def progGetsUptoCard : Claim7 := { stood := { row := progGetsUptoRow, standIns := [], harness := (true, "1c4e06d9de52b84dee05a0ec2ad6d02fac7835e851d66de92282567ef239154f"), looks := true }, kinds := [], alts := [], laidByText := true, laidKinds := [.listed, .data], laidTests := true, laidLooks := .later }
def ProgGetsUptoCardSaid : Prop := Claim7.holds Tryd.pinned (.plain (OpenSpec.upto progGetsSpec)) progGetsUptoCard

/-- THE SECOND FORM's CARD OF 'logjamlaw10.ProgBack'. -/
def progBackUptoCard : Claim7 := { stood := { row := progBackUptoRow, standIns := [], harness := (true, "1c4e06d9de52b84dee05a0ec2ad6d02fac7835e851d66de92282567ef239154f"), looks := true }, kinds := [], alts := [], laidByText := true, laidKinds := [.listed, .data], laidTests := true, laidLooks := .later }
def ProgBackUptoCardSaid : Prop := Claim7.holds Tryd.pinned (.plain (OpenSpec.upto progBackSpec)) progBackUptoCard

/-- THE SECOND FORM's CARD OF 'logjamlaw10.ProgOnce'. -/
def progOnceUptoCard : Claim7 := { stood := { row := progOnceUptoRow, standIns := [], harness := (true, "1c4e06d9de52b84dee05a0ec2ad6d02fac7835e851d66de92282567ef239154f"), looks := true }, kinds := [], alts := [], laidByText := true, laidKinds := [.listed, .data], laidTests := true, laidLooks := .later }
def ProgOnceUptoCardSaid : Prop := Claim7.holds Tryd.pinned (.plain (OpenSpec.upto progOnceSpec)) progOnceUptoCard
end Rows
end Go.Proofs.YtdeekbpniinmbaaDoor
