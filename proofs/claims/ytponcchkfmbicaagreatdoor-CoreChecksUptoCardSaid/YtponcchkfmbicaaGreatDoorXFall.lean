/-
  All functions of this seat, as resolved code.
-/
import Derived.Test.YtponcchkfmbicaaGreatDoorXFs0
import Derived.Test.YtponcchkfmbicaaGreatDoorXFs1
import Derived.Test.YtponcchkfmbicaaGreatDoorXFs2
