/- Imports. -/
import Derived.Test.YthgjdnknjofdjaaDoorXSkip
import Derived.Lib.AppendStr
