/-
  All functions of this seat, as resolved code.
-/
import Derived.Test.YtponcchkfmbicaaXFs0
import Derived.Test.YtponcchkfmbicaaXFs1
import Derived.Test.YtponcchkfmbicaaXFs2
import Derived.Test.YtponcchkfmbicaaXFs3
