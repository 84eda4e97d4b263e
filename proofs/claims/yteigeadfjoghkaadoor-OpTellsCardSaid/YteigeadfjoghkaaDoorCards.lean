/-
  DERIVED. GIVEN WITH THE SEED: THE CARDS: each row of YteigeadfjoghkaaDoorRows.lean that lists a variable, with what it lists TIED to the program's text (the seventh form; the later family's looks); each row that meets fmt, with fmt's text TOLD by the authors' own Lean function (tested against real Go, not proved from fmt's source: count such statements apart). THE CARD IS WHAT COUNTS. Prove the row's statement (the work); the ties are given (YteigeadfjoghkaaDoorTie.lean); close each card by the builder's one call (the guide's Derived/Test/ToyasCard.lean, 'card_holds'). Laid BY PROGRAM, IN A SANDBOX (cutbox-door.mjs). By AI agents, Wed Nov 11 2026. No macro, syntax, notation, axiom, sorry.
-/
import Derived.Test.YteigeadfjoghkaaDoorRows
import GoSem.ClaimSeven
namespace Go.Proofs.YteigeadfjoghkaaDoor
namespace Rows

/-- THE TIED CARD OF 'logjamlaw06.OpPops'. -/
def opPopsCard : Claim7 := { stood := { row := opPopsRow, standIns := [], harness := (true, "ef47dc9dc80fbcc043375cb358dbea8ca19b59d8413d2e4d90994ef5b4fa45f6"), looks := false }, kinds := [], alts := [], laidByText := true, laidKinds := [.listed, .data], laidTests := true, laidLooks := .later }
def OpPopsCardSaid : Prop := Claim7.holds Tryd.pinned (.plain (OpenSpec.ofChange opPopsSpec)) opPopsCard

/-- THE TIED CARD OF 'logjamlaw06.OpNames'. -/
def opNamesCard : Claim7 := { stood := { row := opNamesRow, standIns := [], harness := (true, "ef47dc9dc80fbcc043375cb358dbea8ca19b59d8413d2e4d90994ef5b4fa45f6"), looks := false }, kinds := [], alts := [], laidByText := true, laidKinds := [.listed, .data], laidTests := true, laidLooks := .later }
def OpNamesCardSaid : Prop := Claim7.holds Tryd.pinned (.plain (OpenSpec.ofChange opNamesSpec)) opNamesCard

/-- THE TIED CARD OF 'logjamlaw06.OpTells'. -/
def opTellsCard : Claim7 := { stood := { row := opTellsRow, standIns := [], harness := (true, "ef47dc9dc80fbcc043375cb358dbea8ca19b59d8413d2e4d90994ef5b4fa45f6"), looks := false }, kinds := [], alts := [], laidByText := true, laidKinds := [.listed, .data], laidTests := true, laidLooks := .later }
def OpTellsCardSaid : Prop := Claim7.holds Tryd.pinned (.plain (OpenSpec.ofChange opTellsSpec)) opTellsCard

/-- THE SECOND FORM's CARD OF 'logjamlaw06.OpPops'. -/
def opPopsUptoCard : Claim7 := { stood := { row := opPopsUptoRow, standIns := [], harness := (true, "ef47dc9dc80fbcc043375cb358dbea8ca19b59d8413d2e4d90994ef5b4fa45f6"), looks := false }, kinds := [], alts := [], laidByText := true, laidKinds := [.listed, .data], laidTests := true, laidLooks := .later }
def OpPopsUptoCardSaid : Prop := Claim7.holds Tryd.pinned (.plain (OpenSpec.upto opPopsSpec)) opPopsUptoCard

/-- THE SECOND FORM's CARD OF 'logjamlaw06.OpNames'. -/
def opNamesUptoCard : Claim7 := { stood := { row := opNamesUptoRow, standIns := [], harness := (true, "ef47dc9dc80fbcc043375cb358dbea8ca19b59d8413d2e4d90994ef5b4fa45f6"), looks := false }, kinds := [], alts := [], laidByText := true, laidKinds := [.listed, .data], laidTests := true, laidLooks := .later }
def OpNamesUptoCardSaid : Prop := Claim7.holds Tryd.pinned (.plain (OpenSpec.upto opNamesSpec)) opNamesUptoCard

/-- THE SECOND FORM's CARD OF 'logjamlaw06.OpTells'. -/
def opTellsUptoCard : Claim7 := { stood := { row := opTellsUptoRow, standIns := [], harness := (true, "ef47dc9dc80fbcc043375cb358dbea8ca19b59d8413d2e4d90994ef5b4fa45f6"), looks := false }, kinds := [], alts := [], laidByText := true, laidKinds := [.listed, .data], laidTests := true, laidLooks := .later }
def OpTellsUptoCardSaid : Prop := Claim7.holds Tryd.pinned (.plain (OpenSpec.upto opTellsSpec)) opTellsUptoCard
end Rows
end Go.Proofs.YteigeadfjoghkaaDoor
