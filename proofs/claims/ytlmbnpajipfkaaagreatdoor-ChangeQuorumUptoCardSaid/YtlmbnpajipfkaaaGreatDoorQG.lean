/-
  The document's view change, evaluated: its small parts.
-/
import Derived.Test.YtlmbnpajipfkaaaGreatDoorPA
import Derived.Test.YtlmbnpajipfkaaaGreatDoorMF
import Derived.Test.YtlmbnpajipfkaaaGreatDoorED
import Derived.Test.YtlmbnpajipfkaaaGreatDoorXTab
import Derived.Test.YtlmbnpajipfkaaaGreatDoorEH
namespace Go.Ax
set_option linter.all false
variable {n d : Nat}
set_option maxRecDepth 10000
set_option linter.unusedSimpArgs false
set_option maxHeartbeats 8000000
end Go.Ax
namespace Go.Ax
set_option linter.all false
set_option maxRecDepth 100000
theorem k_alive11 : (runFn T 2097158 14 4 [] []).map (·.1) = some (.dat (.bool true)) := by kernel_rfl
end Go.Ax
namespace Go.Ax
set_option linter.all false
variable {n d : Nat}
set_option maxRecDepth 10000
set_option linter.unusedSimpArgs false
set_option maxHeartbeats 8000000
theorem svc_small3 (v : Int) : SmallM (svcM v) := ⟨by simp [svcM, zeroM], by simp [svcM, zeroM]⟩
theorem dvc_small3 {s : State} (h : Small2 s) : SmallM (dvcM s) := ⟨h.log2, by simp [dvcM, zeroM]⟩
theorem zeroS_small2 : Small2 zeroS := ⟨⟨by simp [zeroS], by simp [zeroS], by simp [zeroS], by simp [zeroS], by simp [zeroS], by simp [zeroS], by simp [zeroS], by simp [zeroS]⟩, by simp [zeroS], by simp [zeroS], by simp [zeroS], by simp [zeroS]⟩
def SmallL (l : List Send) : Prop := l.length ≤ 1000 ∧ ∀ x ∈ l, SmallM x.msg
theorem SmallL.nil : SmallL [] := ⟨by simp, by simp⟩
theorem SmallL.all {c : Cfg} {s : State} {m : Msg} (hs : Small2 s) (hm : SmallM m) : SmallL (allR c s m) ∧ (allR c s m).length ≤ 100 := by
 unfold allR
 split
 ·have := allS_len' (c := c) (s := s) (m := m)
  exact ⟨⟨by omega, (allS_small hs hm).2⟩, this⟩
 ·exact ⟨SmallL.nil, by simp⟩
theorem oneS_small {c : Cfg} {s : State} {to : Int} {m : Msg} (hs : Small2 s) (hm : SmallM m) : SmallM (oneS c s to m).msg := by
 unfold oneS
 split
 ·exact ⟨by simp [zeroM], by simp [zeroM]⟩
 ·exact hm.stamp hs
theorem ballL_small {c : Cfg} {s : State} (hs : Small2 s) : (ballL c s).length ≤ 1 ∧ ∀ x ∈ ballL c s, SmallM x.msg := by
 unfold ballL
 split
 ·simp
 ·refine ⟨by simp, fun x hx => ?_⟩
  rw [List.mem_singleton.1 hx]
  exact oneS_small hs (dvc_small3 hs)
theorem firstL_small {c : Cfg} {t : State} {m : Msg} (h : Small2 t) : SmallL (firstL c t m) ∧ (firstL c t m).length ≤ 100 := by
 unfold firstL
 split
 ·exact SmallL.all (go_small2 h _) (svc_small3 _)
 ·exact ⟨SmallL.nil, by simp⟩
theorem call_small {k : Int} {c : Cfg} {s : State} {m : Msg} (hs : Small2 s) (h : kErr c s m k = 0 → stateErr c (admS c s m) = 0 → Small2 (admS c s m) → Small2 (stepS k c (admS c s m) m) ∧ SmallL (stepL k c (admS c s m) m)) :
  Small2 (callS k c s m) ∧ SmallL (callL k c s m) := by
 unfold callS callL
 by_cases hk : kErr c s m k = 0
 ·obtain ⟨h1, _, h3⟩ := kErr_zero hk
  have g := h hk (admS_ok h1 h3) (hs.adm h1 h3)
  simp only [hk, ne_eq, not_true_eq_false, if_false]
  split
  ·exact ⟨hs.adm h1 h3, SmallL.nil⟩
  ·exact g
 ·rw [if_pos hk, if_pos hk]
  exact ⟨zeroS_small2, SmallL.nil⟩
theorem e_num11 (k : Int) : runFn T n (d + 1) 10 [.dat (di k)] [] = some (.dat (di k), []) := by
 rw [runFn_succ]
 simp [T, xf_law11_num]
theorem alive11 : ∃ H, runFn T 2097158 14 4 [] [] = some (.dat (.bool true), H) := by
 have h := k_alive11
 cases hr : runFn T 2097158 14 4 [] [] with
 | none => rw [hr] at h; cases h
 | some x =>
  rw [hr] at h
  obtain ⟨a, H⟩ := x
  injection h with h
  simp only at h
  exact ⟨H, by rw [h]⟩
end Go.Ax
