/- Imports. -/
import Derived.Test.YthgjdnknjofdjaaDoorXBld
import Derived.Lib.SliceRun
import Derived.Test.YthgjdnknjofdjaaDoorXEq
import Derived.DeepKeys
