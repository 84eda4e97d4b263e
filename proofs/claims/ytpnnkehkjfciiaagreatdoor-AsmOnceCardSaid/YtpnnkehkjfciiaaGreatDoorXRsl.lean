/- Imports. -/
import Derived.Test.YtpnnkehkjfciiaaGreatDoorXBld
import Derived.Lib.SliceRun
import Derived.Test.YtpnnkehkjfciiaaGreatDoorXEq
import Derived.DeepKeys
