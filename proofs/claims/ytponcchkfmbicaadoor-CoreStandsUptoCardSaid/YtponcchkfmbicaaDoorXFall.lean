/-
  All functions of this seat, as resolved code.
-/
import Derived.Test.YtponcchkfmbicaaDoorXFs0
