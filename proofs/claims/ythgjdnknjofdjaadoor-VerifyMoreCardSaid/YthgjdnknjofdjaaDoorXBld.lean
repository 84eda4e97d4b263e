/- Imports. -/
import Derived.Test.YthgjdnknjofdjaaDoorXSub
import Derived.Lib.Builder
import Derived.Lib.UnsafeStr
import Derived.Laws.Externs
import Derived.Shelf.Strings.Builder1
