/-
  Layer 12, the document's: an answer among others; what goes out at a start.
-/
import Derived.Test.YtfoglingdnhjpaaGreatDoorRZ
import Derived.Test.YtfoglingdnhjpaaGreatDoorSS
import Derived.Test.YtfoglingdnhjpaaGreatDoorQG
import Derived.Test.YtfoglingdnhjpaaGreatDoorED
import Derived.Test.YtfoglingdnhjpaaGreatDoorEF
namespace Go.Ax
set_option linter.all false
variable {n d : Nat}
set_option maxRecDepth 10000
set_option maxHeartbeats 16000000
end Go.Ax
namespace Go.Ax
set_option linter.all false
variable {n d : Nat}
set_option maxRecDepth 10000
set_option maxHeartbeats 16000000
end Go.Ax
namespace Go.Ax
set_option linter.all false
variable {n d : Nat}
set_option maxRecDepth 10000
set_option maxHeartbeats 16000000
theorem e_ref12_recovery (c : Cfg) (s : State) (hs : Small2 s) (hok : stateErr c s = 0) (hn : 1048577 < n) :
  runFn T n (d + 9) 46 [.dat (encCfg c), .dat (encS s)] [] = some (.dat (encSds (askL c s)), []) := by
 obtain ⟨_, s1, _, s3, _⟩ := head_of hok
 have hself : 0 ≤ s.self ∧ s.self < s.vector.length := by omega
 have v1 := vec_at hself
 have h := eo_ref09_All (n := n) (d := d) c s (recM s) hs ⟨by simp [recM, zeroM], by simp [recM, zeroM]⟩ hn hok
 have hz : ByteArray.empty = ⟨#[]⟩ := rfl
 have hv0 : encV [] = .sl 2 true [] := rfl
 have hl0 : encLog [] = .sl 5 true [] := rfl
 have e : allS c s (recM s) = askL c s := by unfold askL allR; rw [if_pos hok]
 rw [e] at h
 unfold encM cellsM at h
 generalize askL c s = L at *
 simp only [recM, zeroM, hz, hv0, hl0] at h
 rw [runFn_succ]
 simp (maxSteps := 1000000) [T, xf_ref12_recovery, hself.1, v1, h]
def askE (c : Cfg) (s : State) : Int := if stateErr c s ≠ 0 then stateErr c s else if s.status = 3 then 0 else 90
def askS (c : Cfg) (s : State) : State := if askE c s ≠ 0 then zeroS else s
def askLL (c : Cfg) (s : State) : List Send := if askE c s ≠ 0 then [] else askL c s
theorem wait_rec {c : Cfg} {s : State} (h : stateErr c s = 0) (hs : s.status = 3) : waitS c s = s := by
 unfold waitS
 rw [if_neg (by simp [h])]
 have : still c s = true := by unfold still; simp [hs]
 rw [if_pos this]
theorem e_rejoin_Ask (c : Cfg) (s : State) (hs : Small2 s) (hn : 2097157 < n) :
  runFn T n (d + 11) 39 [.dat (encCfg c), .dat (encS s)] [] = some (.tup [.dat (encS (askS c s)), .dat (encSds (askLL c s)), .dat (di (askE c s))], []) := by
 have h1 := e_core_Check (n := n) (d := d + 5) c s hs.toSmall (by omega)
 unfold askS askLL
 have he : askE c s = if stateErr c s ≠ 0 then stateErr c s else if s.status = 3 then 0 else 90 := rfl
 by_cases q : stateErr c s = 0
 ·rw [if_neg (by simp [q])] at he
  rw [q] at h1
  by_cases q3 : s.status = 3
  ·rw [if_pos q3] at he
   simp only [he, ne_eq, not_true_eq_false, if_false]
   obtain ⟨_, s1, _, s3, _⟩ := head_of q
   have h2 := e_rejoin_asking (n := n) (d := d + 3) c s hs (by omega) (by omega)
   have h3 := e_core_Wait (n := n) (d := d + 4) c s hs.toSmall (by omega)
   rw [wait_rec q q3, q] at h3
   have q3' := eq_true q3
   generalize askL c s = L at *
   generalize waitB c s = B at *
   rw [runFn_succ]
   simp (maxSteps := 1000000) [T, xf_rejoin_Ask, h1, h2, h3, q3']
  ·rw [if_neg q3] at he
   rw [he]
   have q3' := eq_false q3
   rw [runFn_succ]
   simp (maxSteps := 1000000) [T, xf_rejoin_Ask, h1, q3', zeroS]
 ·rw [if_pos q] at he
  rw [he]
  simp only [q, ne_eq, not_false_eq_true, if_true]
  generalize stateErr c s = E at *
  rw [runFn_succ]
  simp (maxSteps := 1000000) [T, xf_rejoin_Ask, h1, q, zeroS]
theorem e_ref12_Ask (c : Cfg) (s : State) (hs : Small2 s) (hn : 2097157 < n) :
  runFn T n (d + 11) 40 [.dat (encCfg c), .dat (encS s)] [] = some (.tup [.dat (encS (askS c s)), .dat (encSds (askLL c s)), .dat (di (askE c s))], []) := by
 have h1 := e_ref09_Check (n := n) (d := d + 3) c s hs.toSmall (by omega)
 have cp := e_plain_CopyState (n := n) (d := d + 8) s hs.toSmall (by omega)
 unfold askS askLL
 have he : askE c s = if stateErr c s ≠ 0 then stateErr c s else if s.status = 3 then 0 else 90 := rfl
 by_cases q : stateErr c s = 0
 ·rw [if_neg (by simp [q])] at he
  rw [q] at h1
  by_cases q3 : s.status = 3
  ·rw [if_pos q3] at he
   simp only [he, ne_eq, not_true_eq_false, if_false]
   have h2 := e_ref12_recovery (n := n) (d := d + 1) c s hs q (by omega)
   have q3' := eq_true q3
   generalize askL c s = L at *
   rw [runFn_succ]
   simp (maxSteps := 1000000) [T, xf_ref12_Ask, h1, h2, cp, copyAV, copyH, q3']
  ·rw [if_neg q3] at he
   rw [he]
   have q3' := eq_false q3
   rw [runFn_succ]
   simp (maxSteps := 1000000) [T, xf_ref12_Ask, h1, q3', zeroS]
 ·rw [if_pos q] at he
  rw [he]
  simp only [q, ne_eq, not_false_eq_true, if_true]
  generalize stateErr c s = E at *
  rw [runFn_succ]
  simp (maxSteps := 1000000) [T, xf_ref12_Ask, h1, q, zeroS]
end Go.Ax
namespace Go.Ax
set_option linter.all false
variable {n d : Nat}
set_option maxRecDepth 10000
set_option maxHeartbeats 8000000
theorem askL_small {c : Cfg} {s : State} (hs : Small2 s) : SmallL (askL c s) := (SmallL.all hs ⟨by simp [recM, zeroM], by simp [recM, zeroM]⟩).1
theorem ask_small {c : Cfg} {s : State} (hs : Small2 s) : Small2 (askS c s) ∧ SmallL (askLL c s) := by
 unfold askS askLL
 split
 ·exact ⟨zeroS_small2, SmallL.nil⟩
 ·exact ⟨hs, askL_small hs⟩
theorem e_same12 (S : State) (L : List Send) (e : Int) (hS : Small S) (hL : SmallL L) (hn : 1048577 < n) : runFn T n (d + 4) 15 [.dat (encS S), .dat (encSds L), .dat (di e), .dat (encS S), .dat (encSds L), .dat (di e)] [] = some (.dat (.bool true), []) := by
 have h2 := e_plain_SameState (n := n) (d := d) S hS hn
 have h3 := e_plain_SameSends (n := n) (d := d) L (by have := hL.1; omega) hL.2 hn
 rw [runFn_succ]
 simp [T, xf_law12_same, h2, h3]
theorem works12 : runFn T 2097158 14 16 [] [] = some (.dat (.bool true), []) := by kernel_rfl
end Go.Ax
namespace Go.Ax
set_option linter.all false
variable {n d : Nat}
set_option maxRecDepth 10000
set_option maxHeartbeats 8000000
theorem law_RejoinAsks (c : Cfg) (s : State) (hs : Small2 s) (hn : 2097157 < n) (hal : runFn T n (d + 14) 16 [] [] = some (.dat (.bool true), [])) :
  ∃ H, runFn T n (d + 15) 11 [.dat (encCfg c), .dat (encS s)] [] = some (.dat (.bool true), H) := by
 have g := e_Given_State (n := n) (d := d + 11) s hs (by omega)
 have o1 := e_rejoin_Ask (n := n) (d := d + 3) c s hs hn
 have o2 := e_ref12_Ask (n := n) (d := d + 3) c s hs hn
 obtain ⟨sm1, sm2⟩ := ask_small (c := c) hs
 have s1 := e_same12 (n := n) (d := d + 10) (askS c s) (askLL c s) (askE c s) sm1.toSmall sm2 (by omega)
 have hin := e_Intact1 (n := n) (d := d + 10) s hs (by omega)
 unfold givAV givH at g
 generalize askS c s = X at o1 o2 s1
 generalize askLL c s = L at o1 o2 s1
 generalize askE c s = K at o1 o2 s1
 rw [runFn_succ]
 simp [T, xf_law12_RejoinAsks, g, o1, o2, s1, hin, hal]
end Go.Ax
