/- Imports. -/
import Derived.Test.YtpnnkehkjfciiaaGreatDoorXRsl
import Derived.Lib.ConvBytes
