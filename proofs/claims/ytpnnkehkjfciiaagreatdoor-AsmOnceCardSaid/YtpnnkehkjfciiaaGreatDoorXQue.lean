/- Imports. -/
import Derived.Test.YtpnnkehkjfciiaaGreatDoorXRsl
import Derived.Test.YtpnnkehkjfciiaaGreatDoorXByt
