/-
  What is known of this seat's package-level variables: nothing.
-/
import Derived.Test.YtponcchkfmbicaaXDefs
namespace Go.Ax
instance gls : Gls := ⟨fun _ => none⟩
end Go.Ax
