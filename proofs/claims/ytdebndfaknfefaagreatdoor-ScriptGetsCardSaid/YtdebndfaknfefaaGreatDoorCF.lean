/- Imports. -/
import Derived.Test.YtdebndfaknfefaaGreatDoorXBulk
import Derived.Test.YtdebndfaknfefaaGreatDoorPF
