/- Imports. -/
import Derived.Test.YtdebndfaknfefaaGreatDoorXBld
import Derived.Lib.SliceRun
import Derived.Test.YtdebndfaknfefaaGreatDoorXEq
import Derived.DeepKeys
