/-
  What is known of this seat's one package-level variable: which fields a kind of messages uses.
-/
import Derived.Test.YtfoglingdnhjpaaGreatDoorXDefs
namespace Go.Ax
def usesB : List (List Bool) := [
 [false, false, false, false, false, false, false, false, false, false],
 [false, false, false, false, false, false, true, false, false, false],
 [true, true, false, true, false, false, true, true, false, false],
 [true, true, false, true, true, false, true, false, false, true],
 [true, true, false, true, false, false, false, false, false, true],
 [true, true, false, false, true, false, false, false, false, true],
 [true, true, false, false, false, false, false, false, false, true],
 [true, true, true, false, true, false, false, false, true, true],
 [true, true, false, false, true, false, false, false, true, true],
 [true, false, false, false, false, true, false, false, false, true],
 [true, true, false, false, true, true, false, false, true, true],
 [true, true, false, false, false, false, false, false, false, true],
 [true, true, false, false, true, false, false, false, true, true],
 [false, false, false, true, false, false, true, false, false, false],
 [true, true, false, false, true, false, true, true, false, false]]
def usesD : List Dat := usesB.flatten.map .bool
instance gls : Gls := ⟨fun g => if g = 0 then some usesD else none, fun _ => false⟩
end Go.Ax
