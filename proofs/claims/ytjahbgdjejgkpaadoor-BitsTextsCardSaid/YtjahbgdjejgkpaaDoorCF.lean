/- What the arguments of the laws say. -/
import Derived.Test.YtjahbgdjejgkpaaDoorXBulk
import Derived.Test.YtjahbgdjejgkpaaDoorPF
namespace LJ
open Go Go.RowKit
set_option linter.unusedVariables false

end LJ
