/-
  The document's view change, evaluated: its small parts.
-/
import Derived.Test.YtfoglingdnhjpaaGreatDoorPA
import Derived.Test.YtfoglingdnhjpaaGreatDoorMF
import Derived.Test.YtfoglingdnhjpaaGreatDoorED
import Derived.Test.YtfoglingdnhjpaaGreatDoorXTab
import Derived.Test.YtfoglingdnhjpaaGreatDoorEF
namespace Go.Ax
set_option linter.all false
variable {n d : Nat}
set_option maxRecDepth 10000
set_option maxHeartbeats 8000000
theorem eo_ref09_All (c : Cfg) (s : State) (m : Msg) (hs : Small2 s) (hm : SmallM m) (hn : 1048577 < n) (he : stateErr c s = 0) : runFn T n (d + 8) 83 [.dat (encCfg c), .dat (encS s), .dat (encM m)] [] = some (.tup [.own 0 0 (allS c s m).length, .dat (di 0)], [.arr 71 19 false false ((allS c s m).map encSd)]) := by
 have h1 := e_ref09_Check (n := n) (d := d) c s hs.toSmall hn
 obtain ⟨n1, n2⟩ := nodes_le (c := c)
 have h3 := l_ref09_All (n := n) (d := d + 4) c s m (nodesOf c).toNat (by omega) (by omega) hs hm hn
 simp [S_AllR, xf_ref09_All_k0] at h3
 rw [runFn_succ]
 rw [he] at h1
 unfold allS
 simp [T, xf_ref09_All, xf_ref09_All_k0, h1, h3]
end Go.Ax
namespace Go.Ax
set_option linter.all false
set_option maxRecDepth 100000
end Go.Ax
namespace Go.Ax
set_option linter.all false
variable {n d : Nat}
set_option maxRecDepth 10000
set_option maxHeartbeats 8000000
theorem zeroS_small2 : Small2 zeroS := ⟨⟨by simp [zeroS], by simp [zeroS], by simp [zeroS], by simp [zeroS], by simp [zeroS], by simp [zeroS], by simp [zeroS], by simp [zeroS]⟩, by simp [zeroS], by simp [zeroS], by simp [zeroS], by simp [zeroS]⟩
def SmallL (l : List Send) : Prop := l.length ≤ 1000 ∧ ∀ x ∈ l, SmallM x.msg
theorem SmallL.nil : SmallL [] := ⟨by simp, by simp⟩
theorem SmallL.all {c : Cfg} {s : State} {m : Msg} (hs : Small2 s) (hm : SmallM m) : SmallL (allR c s m) ∧ (allR c s m).length ≤ 100 := by
 unfold allR
 split
 ·have := allS_len' (c := c) (s := s) (m := m)
  exact ⟨⟨by omega, (allS_small hs hm).2⟩, this⟩
 ·exact ⟨SmallL.nil, by simp⟩
theorem oneS_small {c : Cfg} {s : State} {to : Int} {m : Msg} (hs : Small2 s) (hm : SmallM m) : SmallM (oneS c s to m).msg := by
 unfold oneS
 split
 ·exact ⟨by simp [zeroM], by simp [zeroM]⟩
 ·exact hm.stamp hs
end Go.Ax
