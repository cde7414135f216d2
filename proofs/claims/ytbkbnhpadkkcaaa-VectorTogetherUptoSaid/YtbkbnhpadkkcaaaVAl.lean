/-
  The closed call alive(), evaluated by the kernel.
-/
import Derived.Test.YtbkbnhpadkkcaaaXLoop
import Derived.Test.YtbkbnhpadkkcaaaXTab
import Derived.KernelRfl
namespace Go.Ax
theorem alive_ok : runFn T 2000001 8 32 [] [] = some (.dat (.bool true), []) := by kernel_rfl
end Go.Ax
