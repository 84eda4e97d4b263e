/-
  DERIVED. GIVEN WITH THE SEED: THE CARDS: each row of YtdgnolnlcflmmaaDoorRows.lean that lists a variable, with what it lists TIED to the program's text (the seventh form; the later family's looks); each row that meets fmt, with fmt's text TOLD by the authors' own Lean function (tested against real Go, not proved from fmt's source: count such statements apart). THE CARD IS WHAT COUNTS. Prove the row's statement (the work); the ties are given (YtdgnolnlcflmmaaDoorTie.lean); close each card by the builder's one call (the guide's Derived/Test/ToyasCard.lean, 'card_holds'). Laid BY PROGRAM, IN A SANDBOX (cutbox-door.mjs). By AI agents, Wed Nov 11 2026. No macro, syntax, notation, axiom, sorry.
-/
import Derived.Test.YtdgnolnlcflmmaaDoorRows
import GoSem.ClaimSeven
namespace Go.Proofs.YtdgnolnlcflmmaaDoor
namespace Rows

/-- THE TIED CARD OF 'logjamlaw09.NeedChecks'. -/
def needChecksCard : Claim7 := { stood := { row := needChecksRow, standIns := [], harness := (true, "49c7b84f1bfd4be0cb4b953eb02fe4ff233e065bd76ec5a0cdfa8877d3477dab"), looks := false }, kinds := [], alts := [], laidByText := true, laidKinds := [.data, .data, .data], laidTests := true, laidLooks := .later }
def NeedChecksCardSaid : Prop := Claim7.holds Tryd.pinned (.plain (OpenSpec.ofChange needChecksSpec)) needChecksCard

/-- THE TIED CARD OF 'logjamlaw09.NeedGets'. -/
def needGetsCard : Claim7 := { stood := { row := needGetsRow, standIns := [], harness := (true, "49c7b84f1bfd4be0cb4b953eb02fe4ff233e065bd76ec5a0cdfa8877d3477dab"), looks := false }, kinds := [], alts := [], laidByText := true, laidKinds := [.data, .data, .data], laidTests := true, laidLooks := .later }
def NeedGetsCardSaid : Prop := Claim7.holds Tryd.pinned (.plain (OpenSpec.ofChange needGetsSpec)) needGetsCard

/-- THE TIED CARD OF 'logjamlaw09.NeedBack'. -/
def needBackCard : Claim7 := { stood := { row := needBackRow, standIns := [], harness := (true, "49c7b84f1bfd4be0cb4b953eb02fe4ff233e065bd76ec5a0cdfa8877d3477dab"), looks := false }, kinds := [], alts := [], laidByText := true, laidKinds := [.data, .data, .data], laidTests := true, laidLooks := .later }
def NeedBackCardSaid : Prop := Claim7.holds Tryd.pinned (.plain (OpenSpec.ofChange needBackSpec)) needBackCard

/-- THE TIED CARD OF 'logjamlaw09.NeedOnce'. -/
def needOnceCard : Claim7 := { stood := { row := needOnceRow, standIns := [], harness := (true, "49c7b84f1bfd4be0cb4b953eb02fe4ff233e065bd76ec5a0cdfa8877d3477dab"), looks := false }, kinds := [], alts := [], laidByText := true, laidKinds := [.data, .data, .data], laidTests := true, laidLooks := .later }
def NeedOnceCardSaid : Prop := Claim7.holds Tryd.pinned (.plain (OpenSpec.ofChange needOnceSpec)) needOnceCard

/-- THE TIED CARD OF 'logjamlaw09.NeedTexts'. -/
def needTextsCard : Claim7 := { stood := { row := needTextsRow, standIns := [], harness := (true, "49c7b84f1bfd4be0cb4b953eb02fe4ff233e065bd76ec5a0cdfa8877d3477dab"), looks := false }, kinds := [], alts := [], laidByText := true, laidKinds := [.data, .data, .data], laidTests := true, laidLooks := .later }
def NeedTextsCardSaid : Prop := Claim7.holds Tryd.pinned (.plain (OpenSpec.ofChange needTextsSpec)) needTextsCard

/-- THE SECOND FORM's CARD OF 'logjamlaw09.NeedChecks'. -/
def needChecksUptoCard : Claim7 := { stood := { row := needChecksUptoRow, standIns := [], harness := (true, "49c7b84f1bfd4be0cb4b953eb02fe4ff233e065bd76ec5a0cdfa8877d3477dab"), looks := false }, kinds := [], alts := [], laidByText := true, laidKinds := [.data, .data, .data], laidTests := true, laidLooks := .later }
def NeedChecksUptoCardSaid : Prop := Claim7.holds Tryd.pinned (.plain (OpenSpec.upto needChecksSpec)) needChecksUptoCard

/-- THE SECOND FORM's CARD OF 'logjamlaw09.NeedGets'. -/
def needGetsUptoCard : Claim7 := { stood := { row := needGetsUptoRow, standIns := [], harness := (true, "49c7b84f1bfd4be0cb4b953eb02fe4ff233e065bd76ec5a0cdfa8877d3477dab"), looks := false }, kinds := [], alts := [], laidByText := true, laidKinds := [.data, .data, .data], laidTests := true, laidLooks := .later }
def NeedGetsUptoCardSaid : Prop := Claim7.holds Tryd.pinned (.plain (OpenSpec.upto needGetsSpec)) needGetsUptoCard

/-- THE SECOND FORM's CARD OF 'logjamlaw09.NeedBack'. -/
def needBackUptoCard : Claim7 := { stood := { row := needBackUptoRow, standIns := [], harness := (true, "49c7b84f1bfd4be0cb4b953eb02fe4ff233e065bd76ec5a0cdfa8877d3477dab"), looks := false }, kinds := [], alts := [], laidByText := true, laidKinds := [.data, .data, .data], laidTests := true, laidLooks := .later }
def NeedBackUptoCardSaid : Prop := Claim7.holds Tryd.pinned (.plain (OpenSpec.upto needBackSpec)) needBackUptoCard

/-- THE SECOND FORM's CARD OF 'logjamlaw09.NeedOnce'. -/
def needOnceUptoCard : Claim7 := { stood := { row := needOnceUptoRow, standIns := [], harness := (true, "49c7b84f1bfd4be0cb4b953eb02fe4ff233e065bd76ec5a0cdfa8877d3477dab"), looks := false }, kinds := [], alts := [], laidByText := true, laidKinds := [.data, .data, .data], laidTests := true, laidLooks := .later }
def NeedOnceUptoCardSaid : Prop := Claim7.holds Tryd.pinned (.plain (OpenSpec.upto needOnceSpec)) needOnceUptoCard

/-- THE SECOND FORM's CARD OF 'logjamlaw09.NeedTexts'. -/
def needTextsUptoCard : Claim7 := { stood := { row := needTextsUptoRow, standIns := [], harness := (true, "49c7b84f1bfd4be0cb4b953eb02fe4ff233e065bd76ec5a0cdfa8877d3477dab"), looks := false }, kinds := [], alts := [], laidByText := true, laidKinds := [.data, .data, .data], laidTests := true, laidLooks := .later }
def NeedTextsUptoCardSaid : Prop := Claim7.holds Tryd.pinned (.plain (OpenSpec.upto needTextsSpec)) needTextsUptoCard
end Rows
end Go.Proofs.YtdgnolnlcflmmaaDoor
