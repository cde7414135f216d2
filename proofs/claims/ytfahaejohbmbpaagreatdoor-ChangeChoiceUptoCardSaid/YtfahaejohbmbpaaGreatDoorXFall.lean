/-
  All functions of this seat, as resolved code.
-/
import Derived.Test.YtfahaejohbmbpaaGreatDoorXFs0
import Derived.Test.YtfahaejohbmbpaaGreatDoorXFs1
import Derived.Test.YtfahaejohbmbpaaGreatDoorXFs2
