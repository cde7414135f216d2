/-
  What is known of this seat's package-level variables: nothing.
-/
import Derived.Test.YtponcchkfmbicaaXDefs
namespace Go.Ax
set_option linter.all false
instance gls : Gls := ⟨fun _ => none⟩
end Go.Ax
