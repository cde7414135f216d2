/-
  Layer 12, the document's: an answer among others; what goes out at a start.
-/
import Derived.Test.YtfoglingdnhjpaaGreatDoorRZ
import Derived.Test.YtfoglingdnhjpaaGreatDoorSS
import Derived.Test.YtfoglingdnhjpaaGreatDoorQG
import Derived.Test.YtfoglingdnhjpaaGreatDoorED
import Derived.Test.YtfoglingdnhjpaaGreatDoorEF
namespace Go.Ax
set_option linter.all false
variable {n d : Nat}
set_option maxRecDepth 10000
set_option maxHeartbeats 16000000
end Go.Ax
namespace Go.Ax
set_option linter.all false
variable {n d : Nat}
set_option maxRecDepth 10000
set_option maxHeartbeats 16000000
end Go.Ax
namespace Go.Ax
set_option linter.all false
variable {n d : Nat}
set_option maxRecDepth 10000
set_option maxHeartbeats 16000000
def startL12 (c : Cfg) (i : Int) (x : Draw) : List Send := if rebornErr c i x ≠ 0 then [] else askL c (rebornS c i x)
theorem reborn_small (c : Cfg) (i : Int) (x : Draw) : Small2 (rebornS c i x) := by
 unfold rebornS
 split
 ·exact ⟨⟨by simp [zeroS], by simp [zeroS], by simp [zeroS], by simp [zeroS], by simp [zeroS], by simp [zeroS], by simp [zeroS], by simp [zeroS]⟩, by simp [zeroS], by simp [zeroS], by simp [zeroS], by simp [zeroS]⟩
 ·rename_i h
  have hc : cfgOk c := by
   refine (self_of (c := c) (i := i) ?_).1
   unfold rebornErr at h
   by_cases q : selfErr c i = 0
   ·exact q
   ·rw [if_pos q] at h; exact absurd q (by simpa using h)
  unfold cfgOk at hc
  have : (NN c).toNat ≤ 7 := by simp only [NN]; omega
  exact ⟨⟨by simp, by simp; omega, by simp, by simp, by simp, by simp, by simp, by simp⟩, by simp, by simp; omega, by simp, by simp⟩
theorem e_rejoin_Start (c : Cfg) (i : Int) (x : Draw) (hn : 2097157 < n) :
  runFn T n (d + 11) 13 [.dat (encCfg c), .dat (di i), .dat (encD x)] [] = some (.tup [.dat (encS (rebornS c i x)), .dat (encSds (startL12 c i x)), .dat (di (rebornErr c i x))], []) := by
 have h1 := e_core_Reborn (n := n) (d := d + 6) c i x
 unfold startL12
 by_cases he : rebornErr c i x = 0
 ·have hok := (reborn_ok c i x).2 he
  obtain ⟨_, s1, _, s3, _⟩ := head_of hok
  have h2 := e_rejoin_asking (n := n) (d := d + 3) c (rebornS c i x) (reborn_small c i x) (by omega) (by omega)
  rw [if_neg (by simp [he])]
  rw [he] at h1 ⊢
  generalize rebornS c i x = t at *
  generalize askL c t = L at *
  rw [runFn_succ]
  simp (maxSteps := 1000000) [T, xf_rejoin_Start, h1, h2]
 ·rw [if_pos he]
  have hz : rebornS c i x = zeroS := by unfold rebornS; rw [if_pos he]
  rw [hz] at h1 ⊢
  generalize rebornErr c i x = E at *
  unfold zeroS at *
  rw [runFn_succ]
  simp (maxSteps := 1000000) [T, xf_rejoin_Start, h1, he]
theorem e_ref12_recovery (c : Cfg) (s : State) (hs : Small2 s) (hok : stateErr c s = 0) (hn : 1048577 < n) :
  runFn T n (d + 9) 46 [.dat (encCfg c), .dat (encS s)] [] = some (.dat (encSds (askL c s)), []) := by
 obtain ⟨_, s1, _, s3, _⟩ := head_of hok
 have hself : 0 ≤ s.self ∧ s.self < s.vector.length := by omega
 have v1 := vec_at hself
 have h := eo_ref09_All (n := n) (d := d) c s (recM s) hs ⟨by simp [recM, zeroM], by simp [recM, zeroM]⟩ hn hok
 have hz : ByteArray.empty = ⟨#[]⟩ := rfl
 have hv0 : encV [] = .sl 2 true [] := rfl
 have hl0 : encLog [] = .sl 5 true [] := rfl
 have e : allS c s (recM s) = askL c s := by unfold askL allR; rw [if_pos hok]
 rw [e] at h
 unfold encM cellsM at h
 generalize askL c s = L at *
 simp only [recM, zeroM, hz, hv0, hl0] at h
 rw [runFn_succ]
 simp (maxSteps := 1000000) [T, xf_ref12_recovery, hself.1, v1, h]
theorem e_ref12_Start (c : Cfg) (i : Int) (x : Draw) (hn : 2097157 < n) :
  runFn T n (d + 11) 14 [.dat (encCfg c), .dat (di i), .dat (encD x)] [] = some (.tup [.dat (encS (rebornS c i x)), .dat (encSds (startL12 c i x)), .dat (di (rebornErr c i x))], []) := by
 have h1 := e_ref09_Reborn (n := n) (d := d + 5) c i x
 unfold startL12
 by_cases he : rebornErr c i x = 0
 ·have hok := (reborn_ok c i x).2 he
  have h2 := e_ref12_recovery (n := n) (d := d + 1) c (rebornS c i x) (reborn_small c i x) hok (by omega)
  rw [if_neg (by simp [he])]
  rw [he] at h1 ⊢
  generalize rebornS c i x = t at *
  generalize askL c t = L at *
  rw [runFn_succ]
  simp (maxSteps := 1000000) [T, xf_ref12_Start, h1, h2]
 ·rw [if_pos he]
  have hz : rebornS c i x = zeroS := by unfold rebornS; rw [if_pos he]
  rw [hz] at h1 ⊢
  generalize rebornErr c i x = E at *
  unfold zeroS at *
  rw [runFn_succ]
  simp (maxSteps := 1000000) [T, xf_ref12_Start, h1, he]
end Go.Ax
namespace Go.Ax
set_option linter.all false
variable {n d : Nat}
set_option maxRecDepth 10000
set_option maxHeartbeats 8000000
theorem askL_small {c : Cfg} {s : State} (hs : Small2 s) : SmallL (askL c s) := (SmallL.all hs ⟨by simp [recM, zeroM], by simp [recM, zeroM]⟩).1
theorem startL12_small (c : Cfg) (i : Int) (x : Draw) : SmallL (startL12 c i x) := by
 unfold startL12
 split
 ·exact SmallL.nil
 ·exact askL_small (reborn_small c i x)
theorem e_same12 (S : State) (L : List Send) (e : Int) (hS : Small S) (hL : SmallL L) (hn : 1048577 < n) : runFn T n (d + 4) 15 [.dat (encS S), .dat (encSds L), .dat (di e), .dat (encS S), .dat (encSds L), .dat (di e)] [] = some (.dat (.bool true), []) := by
 have h2 := e_plain_SameState (n := n) (d := d) S hS hn
 have h3 := e_plain_SameSends (n := n) (d := d) L (by have := hL.1; omega) hL.2 hn
 rw [runFn_succ]
 simp [T, xf_law12_same, h2, h3]
theorem works12 : runFn T 2097158 14 16 [] [] = some (.dat (.bool true), []) := by kernel_rfl
end Go.Ax
namespace Go.Ax
set_option linter.all false
variable {n d : Nat}
set_option maxRecDepth 10000
set_option maxHeartbeats 8000000
theorem law_RejoinStarts (c : Cfg) (i : Int) (x : Draw) (hn : 2097157 < n) (hal : runFn T n (d + 14) 16 [] [] = some (.dat (.bool true), [])) :
  ∃ H, runFn T n (d + 15) 3 [.dat (encCfg c), .dat (di i), .dat (encD x)] [] = some (.dat (.bool true), H) := by
 have o1 := e_rejoin_Start (n := n) (d := d + 3) c i x hn
 have o2 := e_ref12_Start (n := n) (d := d + 3) c i x hn
 have s1 := e_same12 (n := n) (d := d + 10) (rebornS c i x) (startL12 c i x) (rebornErr c i x) (reborn_small c i x).toSmall (startL12_small c i x) (by omega)
 generalize rebornS c i x = X at o1 o2 s1
 generalize startL12 c i x = L at o1 o2 s1
 generalize rebornErr c i x = K at o1 o2 s1
 rw [runFn_succ]
 simp [T, xf_law12_RejoinStarts, o1, o2, s1, hal]
end Go.Ax
