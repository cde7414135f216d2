/-
  Voices.
-/
import Derived.Test.YtbkbnhpadkkcaaaVN
namespace Go.Ax

structure Voice where
  node : Int
  vec : List Draw
  deriving DecidableEq
abbrev encVo (v : Voice) : Dat := .agg [.int .i64 v.node, encV v.vec]
abbrev encVos (l : List Voice) : Dat := .sl 2 false (l.map encVo)
abbrev encBs (l : List Bool) : Dat := .sl 1 true (l.map Dat.bool)

end Go.Ax
