/-
  All functions of this seat, as resolved code.
-/
import Derived.Test.YtlmbnpajipfkaaaGreatDoorXFs0
import Derived.Test.YtlmbnpajipfkaaaGreatDoorXFs1
import Derived.Test.YtlmbnpajipfkaaaGreatDoorXFs2
