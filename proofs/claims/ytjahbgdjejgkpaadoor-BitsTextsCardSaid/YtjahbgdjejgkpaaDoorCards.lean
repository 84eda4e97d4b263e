/-
  DERIVED. GIVEN WITH THE SEED: THE CARDS: each row of YtjahbgdjejgkpaaDoorRows.lean that lists a variable, with what it lists TIED to the program's text (the seventh form; the later family's looks); each row that meets fmt, with fmt's text TOLD by the authors' own Lean function (tested against real Go, not proved from fmt's source: count such statements apart). THE CARD IS WHAT COUNTS. Prove the row's statement (the work); the ties are given (YtjahbgdjejgkpaaDoorTie.lean); close each card by the builder's one call (the guide's Derived/Test/ToyasCard.lean, 'card_holds'). Laid BY PROGRAM, IN A SANDBOX (cutbox-door.mjs). By AI agents, Wed Nov 11 2026. No macro, syntax, notation, axiom, sorry.
-/
import Derived.Test.YtjahbgdjejgkpaaDoorRows
import GoSem.ClaimSeven
namespace Go.Proofs.YtjahbgdjejgkpaaDoor
namespace Rows

/-- THE TIED CARD OF 'logjamlaw02.BitsMoves'. -/
def bitsMovesCard : Claim7 := { stood := { row := bitsMovesRow, standIns := [], harness := (true, "1a71416d78be644141d8ca8940d00524828b7d7641ff9fe901790c2bef579c52"), looks := true }, kinds := [], alts := [], laidByText := true, laidKinds := [.data, .data, .data], laidTests := true, laidLooks := .later }
def BitsMovesCardSaid : Prop := Claim7.holds Tryd.pinned (.plain (OpenSpec.ofChange bitsMovesSpec)) bitsMovesCard

/-- THE TIED CARD OF 'logjamlaw02.BitsBelow'. -/
def bitsBelowCard : Claim7 := { stood := { row := bitsBelowRow, standIns := [], harness := (true, "1a71416d78be644141d8ca8940d00524828b7d7641ff9fe901790c2bef579c52"), looks := true }, kinds := [], alts := [], laidByText := true, laidKinds := [.data, .data, .data], laidTests := true, laidLooks := .later }
def BitsBelowCardSaid : Prop := Claim7.holds Tryd.pinned (.plain (OpenSpec.ofChange bitsBelowSpec)) bitsBelowCard

/-- THE TIED CARD OF 'logjamlaw02.BitsWalk'. -/
def bitsWalkCard : Claim7 := { stood := { row := bitsWalkRow, standIns := [], harness := (true, "1a71416d78be644141d8ca8940d00524828b7d7641ff9fe901790c2bef579c52"), looks := true }, kinds := [], alts := [], laidByText := true, laidKinds := [.data, .data, .data], laidTests := true, laidLooks := .later }
def BitsWalkCardSaid : Prop := Claim7.holds Tryd.pinned (.plain (OpenSpec.ofChange bitsWalkSpec)) bitsWalkCard

/-- THE TIED CARD OF 'logjamlaw02.BitsTells'. -/
def bitsTellsCard : Claim7 := { stood := { row := bitsTellsRow, standIns := [], harness := (true, "1a71416d78be644141d8ca8940d00524828b7d7641ff9fe901790c2bef579c52"), looks := true }, kinds := [], alts := [], laidByText := true, laidKinds := [.data, .data, .data], laidTests := true, laidLooks := .later }
def BitsTellsCardSaid : Prop := Claim7.holds Tryd.pinned (.plain (OpenSpec.ofChange bitsTellsSpec)) bitsTellsCard

/-- THE TIED CARD OF 'logjamlaw02.BitsTexts'. -/
def bitsTextsCard : Claim7 := { stood := { row := bitsTextsRow, standIns := [], harness := (true, "1a71416d78be644141d8ca8940d00524828b7d7641ff9fe901790c2bef579c52"), looks := true }, kinds := [], alts := [], laidByText := true, laidKinds := [.data, .data, .data, .data, .sentinel, .sentinel, .pinned], laidTests := true, laidLooks := .later }
def BitsTextsCardSaid : Prop := Claim7.holds Tryd.pinned (.plain (OpenSpec.ofChange bitsTextsSpec)) bitsTextsCard

/-- THE SECOND FORM's CARD OF 'logjamlaw02.BitsMoves'. -/
def bitsMovesUptoCard : Claim7 := { stood := { row := bitsMovesUptoRow, standIns := [], harness := (true, "1a71416d78be644141d8ca8940d00524828b7d7641ff9fe901790c2bef579c52"), looks := true }, kinds := [], alts := [], laidByText := true, laidKinds := [.data, .data, .data], laidTests := true, laidLooks := .later }
def BitsMovesUptoCardSaid : Prop := Claim7.holds Tryd.pinned (.plain (OpenSpec.upto bitsMovesSpec)) bitsMovesUptoCard

/-- THE SECOND FORM's CARD OF 'logjamlaw02.BitsBelow'. -/
def bitsBelowUptoCard : Claim7 := { stood := { row := bitsBelowUptoRow, standIns := [], harness := (true, "1a71416d78be644141d8ca8940d00524828b7d7641ff9fe901790c2bef579c52"), looks := true }, kinds := [], alts := [], laidByText := true, laidKinds := [.data, .data, .data], laidTests := true, laidLooks := .later }
def BitsBelowUptoCardSaid : Prop := Claim7.holds Tryd.pinned (.plain (OpenSpec.upto bitsBelowSpec)) bitsBelowUptoCard

/-- THE SECOND FORM's CARD OF 'logjamlaw02.BitsWalk'. -/
def bitsWalkUptoCard : Claim7 := { stood := { row := bitsWalkUptoRow, standIns := [], harness := (true, "1a71416d78be644141d8ca8940d00524828b7d7641ff9fe901790c2bef579c52"), looks := true }, kinds := [], alts := [], laidByText := true, laidKinds := [.data, .data, .data], laidTests := true, laidLooks := .later }
def BitsWalkUptoCardSaid : Prop := Claim7.holds Tryd.pinned (.plain (OpenSpec.upto bitsWalkSpec)) bitsWalkUptoCard

/-- THE SECOND FORM's CARD OF 'logjamlaw02.BitsTells'. -/
def bitsTellsUptoCard : Claim7 := { stood := { row := bitsTellsUptoRow, standIns := [], harness := (true, "1a71416d78be644141d8ca8940d00524828b7d7641ff9fe901790c2bef579c52"), looks := true }, kinds := [], alts := [], laidByText := true, laidKinds := [.data, .data, .data], laidTests := true, laidLooks := .later }
def BitsTellsUptoCardSaid : Prop := Claim7.holds Tryd.pinned (.plain (OpenSpec.upto bitsTellsSpec)) bitsTellsUptoCard

/-- THE SECOND FORM's CARD OF 'logjamlaw02.BitsTexts'. -/
def bitsTextsUptoCard : Claim7 := { stood := { row := bitsTextsUptoRow, standIns := [], harness := (true, "1a71416d78be644141d8ca8940d00524828b7d7641ff9fe901790c2bef579c52"), looks := true }, kinds := [], alts := [], laidByText := true, laidKinds := [.data, .data, .data, .data, .sentinel, .sentinel, .pinned], laidTests := true, laidLooks := .later }
def BitsTextsUptoCardSaid : Prop := Claim7.holds Tryd.pinned (.plain (OpenSpec.upto bitsTextsSpec)) bitsTextsUptoCard
end Rows
end Go.Proofs.YtjahbgdjejgkpaaDoor
