/-
  All functions of this seat, as resolved code.
-/
import Derived.Test.YtfoglingdnhjpaaGreatDoorXFs0
import Derived.Test.YtfoglingdnhjpaaGreatDoorXFs1
import Derived.Test.YtfoglingdnhjpaaGreatDoorXFs2
