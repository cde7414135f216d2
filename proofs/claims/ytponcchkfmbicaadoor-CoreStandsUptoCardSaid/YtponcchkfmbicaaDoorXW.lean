/-
  A tick: see EC.
-/
import Derived.Test.YtponcchkfmbicaaDoorEC
