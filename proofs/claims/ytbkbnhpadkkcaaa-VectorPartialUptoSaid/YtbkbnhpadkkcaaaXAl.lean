/-
  The closed call alive(), evaluated by the kernel.
-/
import Derived.Test.YtbkbnhpadkkcaaaXTab
import Derived.KernelRfl
namespace Go.Ax
theorem alive_ok : runFn T 1048578 8 32 [] [] = some (.dat (.bool true), []) := by kernel_rfl
end Go.Ax
