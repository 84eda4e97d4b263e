/- Laid variables: what a row's list of them says, as data. -/
import Derived.Test.YtcnfbifekdmacaaXArg
import Derived.Lib.LaidTab
import Derived.Lib.LaidU8
namespace LJ
open Go Go.RowKit
set_option linter.unusedVariables false
set_option linter.unusedSimpArgs false

theorem gget_nil {n : Nat} {cs : List DV} (h : gget [] n = some cs) : False := by cases h
end LJ
