/-
  DERIVED. GIVEN WITH THE SEED: THE CARDS: each row of YtmofmaipkmedlaaDoorRows.lean that lists a variable, with what it lists TIED to the program's text (the seventh form; the later family's looks); each row that meets fmt, with fmt's text TOLD by the authors' own Lean function (tested against real Go, not proved from fmt's source: count such statements apart). THE CARD IS WHAT COUNTS. Prove the row's statement (the work); the ties are given (YtmofmaipkmedlaaDoorTie.lean); close each card by the builder's one call (the guide's Derived/Test/ToyasCard.lean, 'card_holds'). Laid BY PROGRAM, IN A SANDBOX (cutbox-door.mjs). By AI agents, Wed Nov 11 2026. No macro, syntax, notation, axiom, sorry.
-/
import Derived.Test.YtmofmaipkmedlaaDoorRows
import GoSem.ClaimSeven
namespace Go.Proofs.YtmofmaipkmedlaaDoor
namespace Rows

/-- THE TIED CARD OF 'logjamlaw07.InsChecks'. -/
def insChecksCard : Claim7 := { stood := { row := insChecksRow, standIns := [], harness := (true, "cd55ec8df0ad863d430c09b6a242fd151fe5adaba8691263dd4f41f002351509"), looks := false }, kinds := [], alts := [], laidByText := true, laidKinds := [.listed, .data], laidTests := true, laidLooks := .later }
def InsChecksCardSaid : Prop := Claim7.holds Tryd.pinned (.plain (OpenSpec.ofChange insChecksSpec)) insChecksCard

/-- THE TIED CARD OF 'logjamlaw07.InsGets'. -/
def insGetsCard : Claim7 := { stood := { row := insGetsRow, standIns := [], harness := (true, "cd55ec8df0ad863d430c09b6a242fd151fe5adaba8691263dd4f41f002351509"), looks := false }, kinds := [], alts := [], laidByText := true, laidKinds := [.listed, .data], laidTests := true, laidLooks := .later }
def InsGetsCardSaid : Prop := Claim7.holds Tryd.pinned (.plain (OpenSpec.ofChange insGetsSpec)) insGetsCard

/-- THE TIED CARD OF 'logjamlaw07.InsBack'. -/
def insBackCard : Claim7 := { stood := { row := insBackRow, standIns := [], harness := (true, "cd55ec8df0ad863d430c09b6a242fd151fe5adaba8691263dd4f41f002351509"), looks := false }, kinds := [], alts := [], laidByText := true, laidKinds := [.listed, .data], laidTests := true, laidLooks := .later }
def InsBackCardSaid : Prop := Claim7.holds Tryd.pinned (.plain (OpenSpec.ofChange insBackSpec)) insBackCard

/-- THE TIED CARD OF 'logjamlaw07.InsOnce'. -/
def insOnceCard : Claim7 := { stood := { row := insOnceRow, standIns := [], harness := (true, "cd55ec8df0ad863d430c09b6a242fd151fe5adaba8691263dd4f41f002351509"), looks := false }, kinds := [], alts := [], laidByText := true, laidKinds := [.listed, .data], laidTests := true, laidLooks := .later }
def InsOnceCardSaid : Prop := Claim7.holds Tryd.pinned (.plain (OpenSpec.ofChange insOnceSpec)) insOnceCard

/-- THE SECOND FORM's CARD OF 'logjamlaw07.InsChecks'. -/
def insChecksUptoCard : Claim7 := { stood := { row := insChecksUptoRow, standIns := [], harness := (true, "cd55ec8df0ad863d430c09b6a242fd151fe5adaba8691263dd4f41f002351509"), looks := false }, kinds := [], alts := [], laidByText := true, laidKinds := [.listed, .data], laidTests := true, laidLooks := .later }
def InsChecksUptoCardSaid : Prop := Claim7.holds Tryd.pinned (.plain (OpenSpec.upto insChecksSpec)) insChecksUptoCard

/-- THE SECOND FORM's CARD OF 'logjamlaw07.InsGets'. -/
def insGetsUptoCard : Claim7 := { stood := { row := insGetsUptoRow, standIns := [], harness := (true, "cd55ec8df0ad863d430c09b6a242fd151fe5adaba8691263dd4f41f002351509"), looks := false }, kinds := [], alts := [], laidByText := true, laidKinds := [.listed, .data], laidTests := true, laidLooks := .later }
def InsGetsUptoCardSaid : Prop := Claim7.holds Tryd.pinned (.plain (OpenSpec.upto insGetsSpec)) insGetsUptoCard

/-- THE SECOND FORM's CARD OF 'logjamlaw07.InsBack'. -/
def insBackUptoCard : Claim7 := { stood := { row := insBackUptoRow, standIns := [], harness := (true, "cd55ec8df0ad863d430c09b6a242fd151fe5adaba8691263dd4f41f002351509"), looks := false }, kinds := [], alts := [], laidByText := true, laidKinds := [.listed, .data], laidTests := true, laidLooks := .later }
def InsBackUptoCardSaid : Prop := Claim7.holds Tryd.pinned (.plain (OpenSpec.upto insBackSpec)) insBackUptoCard

/-- THE SECOND FORM's CARD OF 'logjamlaw07.InsOnce'. -/
def insOnceUptoCard : Claim7 := { stood := { row := insOnceUptoRow, standIns := [], harness := (true, "cd55ec8df0ad863d430c09b6a242fd151fe5adaba8691263dd4f41f002351509"), looks := false }, kinds := [], alts := [], laidByText := true, laidKinds := [.listed, .data], laidTests := true, laidLooks := .later }
def InsOnceUptoCardSaid : Prop := Claim7.holds Tryd.pinned (.plain (OpenSpec.upto insOnceSpec)) insOnceUptoCard
end Rows
end Go.Proofs.YtmofmaipkmedlaaDoor
