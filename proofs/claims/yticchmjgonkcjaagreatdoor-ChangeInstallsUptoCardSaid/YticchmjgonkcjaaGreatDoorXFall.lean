/-
  All functions of this seat, as resolved code.
-/
import Derived.Test.YticchmjgonkcjaaGreatDoorXFs0
import Derived.Test.YticchmjgonkcjaaGreatDoorXFs1
import Derived.Test.YticchmjgonkcjaaGreatDoorXFs2
import Derived.Test.YticchmjgonkcjaaGreatDoorXFs3
