/-
  DERIVED. GIVEN WITH THE SEED: THE CARDS: each row of YthgjdnknjofdjaaDoorRows.lean that lists a variable, with what it lists TIED to the program's text (the seventh form; the later family's looks); each row that meets fmt, with fmt's text TOLD by the authors' own Lean function (tested against real Go, not proved from fmt's source: count such statements apart). THE CARD IS WHAT COUNTS. Prove the row's statement (the work); the ties are given (YthgjdnknjofdjaaDoorTie.lean); close each card by the builder's one call (the guide's Derived/Test/ToyasCard.lean, 'card_holds'). Laid BY PROGRAM, IN A SANDBOX (cutbox-door.mjs). By AI agents, Wed Nov 11 2026. No macro, syntax, notation, axiom, sorry.
-/
import Derived.Test.YthgjdnknjofdjaaDoorRows
import GoSem.ClaimSeven
namespace Go.Proofs.YthgjdnknjofdjaaDoor
namespace Rows

/-- THE TIED CARD OF 'logjamlaw12.VerifyMore'. -/
def verifyMoreCard : Claim7 := { stood := { row := verifyMoreRow, standIns := [], harness := (true, "b9d9c61449a262e9996e443ddb468852ed9c5cd35b6454763189b5086d1deafd"), looks := false }, kinds := [], alts := [], laidByText := true, laidKinds := [.data, .listed, .data], laidTests := true, laidLooks := .later }
def VerifyMoreCardSaid : Prop := Claim7.holds Tryd.pinned (.plain (OpenSpec.ofChange verifyMoreSpec)) verifyMoreCard

/-- THE TIED CARD OF 'logjamlaw12.VerifyKinds'. -/
def verifyKindsCard : Claim7 := { stood := { row := verifyKindsRow, standIns := [], harness := (true, "b9d9c61449a262e9996e443ddb468852ed9c5cd35b6454763189b5086d1deafd"), looks := false }, kinds := [], alts := [], laidByText := true, laidKinds := [.data, .listed, .data], laidTests := true, laidLooks := .later }
def VerifyKindsCardSaid : Prop := Claim7.holds Tryd.pinned (.plain (OpenSpec.ofChange verifyKindsSpec)) verifyKindsCard

/-- THE SECOND FORM's CARD OF 'logjamlaw12.VerifyMore'. -/
def verifyMoreUptoCard : Claim7 := { stood := { row := verifyMoreUptoRow, standIns := [], harness := (true, "b9d9c61449a262e9996e443ddb468852ed9c5cd35b6454763189b5086d1deafd"), looks := false }, kinds := [], alts := [], laidByText := true, laidKinds := [.data, .listed, .data], laidTests := true, laidLooks := .later }
def VerifyMoreUptoCardSaid : Prop := Claim7.holds Tryd.pinned (.plain (OpenSpec.upto verifyMoreSpec)) verifyMoreUptoCard

/-- THE SECOND FORM's CARD OF 'logjamlaw12.VerifyKinds'. -/
def verifyKindsUptoCard : Claim7 := { stood := { row := verifyKindsUptoRow, standIns := [], harness := (true, "b9d9c61449a262e9996e443ddb468852ed9c5cd35b6454763189b5086d1deafd"), looks := false }, kinds := [], alts := [], laidByText := true, laidKinds := [.data, .listed, .data], laidTests := true, laidLooks := .later }
def VerifyKindsUptoCardSaid : Prop := Claim7.holds Tryd.pinned (.plain (OpenSpec.upto verifyKindsSpec)) verifyKindsUptoCard
end Rows
end Go.Proofs.YthgjdnknjofdjaaDoor
