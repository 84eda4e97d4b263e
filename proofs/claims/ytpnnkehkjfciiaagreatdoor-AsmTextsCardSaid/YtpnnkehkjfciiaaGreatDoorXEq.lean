/- Imports. -/
import Derived.Test.YtpnnkehkjfciiaaGreatDoorXVal
import Derived.Laws.StructEq
import Derived.ChangeKeysEq
