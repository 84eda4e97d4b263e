/- Imports. -/
import Derived.Test.YtdebndfaknfefaaGreatDoorXBld
