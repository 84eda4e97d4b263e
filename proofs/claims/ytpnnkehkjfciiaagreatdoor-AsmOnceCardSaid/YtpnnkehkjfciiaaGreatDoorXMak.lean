/- Imports. -/
import Derived.Test.YtpnnkehkjfciiaaGreatDoorXBld
