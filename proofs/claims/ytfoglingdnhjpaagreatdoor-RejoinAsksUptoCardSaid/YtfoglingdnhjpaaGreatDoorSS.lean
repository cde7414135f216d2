/-
  First, and chapter 9's first two examples, evaluated.
-/
import Derived.Test.YtfoglingdnhjpaaGreatDoorMF
import Derived.Test.YtfoglingdnhjpaaGreatDoorED
import Derived.Test.YtfoglingdnhjpaaGreatDoorPA
import Derived.Test.YtfoglingdnhjpaaGreatDoorEC
import Derived.Test.YtfoglingdnhjpaaGreatDoorEF
namespace Go.Ax
set_option linter.all false
variable {n d : Nat}
set_option maxRecDepth 10000
set_option maxHeartbeats 4000000
theorem e_vector_New (k : Int) (h : 1 ≤ k ∧ k ≤ 7) : runFn T n (d + 1) 79 [.dat (di k)] [] = some (.tup [.own 0 0 k.toNat, .dat (di 0)], [.arr 26 2 true false (List.replicate k.toNat (encD ⟨0, 0⟩))]) := by
 have hL : k ≤ (LIM : Int) := by simp only [LIM]; omega
 have h1 : ¬ k < 1 := by omega
 have h2 : ¬ 7 < k := by omega
 have h3 : 0 ≤ k := by omega
 rw [runFn_succ]
 simp [T, xf_vector_New, h1, h2, h3, hL]
def selfErr (c : Cfg) (i : Int) : Int := if cfgOk c then (if 0 ≤ i ∧ i < NN c then 0 else 3) else 1
theorem e_core_self (c : Cfg) (i : Int) : runFn T n (d + 3) 78 [.dat (encCfg c), .dat (di i)] [] = some (.dat (di (selfErr c i)), []) := by
 have h1 := e_core_CheckConfig (n := n) (d := d + 1) c
 have h2 := e_core_Nodes (n := n) (d := d) c
 rw [runFn_succ]
 unfold selfErr
 by_cases hc : cfgOk c
 ·have hN : nodesOf c = NN c := by unfold nodesOf; rw [if_pos hc]
  rw [if_pos hc] at h1 ⊢
  rw [hN] at h2
  by_cases h3 : i < 0
  ·have h4 : ¬ (0 ≤ i ∧ i < NN c) := by omega
   rw [if_neg h4]
   simp [T, xf_core_self, h1, h2, h3]
  ·by_cases h5 : NN c ≤ i
   ·have h4 : ¬ (0 ≤ i ∧ i < NN c) := by omega
    rw [if_neg h4]
    simp [T, xf_core_self, h1, h2, h3, h5]
   ·have h4 : (0 ≤ i ∧ i < NN c) := by omega
    rw [if_pos h4]
    simp [T, xf_core_self, h1, h2, h3, h5]
 ·rw [if_neg hc] at h1 ⊢
  simp [T, xf_core_self, h1]
def c3 : Cfg := ⟨1, 4, 6, false⟩
end Go.Ax
namespace Go.Ax
set_option linter.all false
set_option maxRecDepth 10000
set_option maxHeartbeats 4000000
theorem nodesOf_ok {c : Cfg} (h : cfgOk c) : nodesOf c = NN c := by unfold nodesOf; rw [if_pos h]
theorem err_zero (c : Cfg) : stateErr c zeroS ≠ 0 := by
 intro h
 rw [stateErr_iff] at h
 obtain ⟨hc, hh, _⟩ := h
 unfold headOff at hh
 rw [nodesOf_ok hc] at hh
 unfold cfgOk at hc
 simp [zeroS, NN] at hh
 have := of_decide_eq_true hh.2
 omega
theorem logErr_nil {c : Cfg} (hc : cfgOk c) : logErr [] c.room = 0 := by
 unfold cfgOk at hc
 unfold logErr logErr1
 rw [if_neg (by omega), if_neg (by simp; omega)]
end Go.Ax
namespace Go.Ax
set_option linter.all false
variable {n d : Nat}
set_option maxRecDepth 10000
set_option maxHeartbeats 4000000
def rebornErr (c : Cfg) (i : Int) (x : Draw) : Int := if selfErr c i ≠ 0 then selfErr c i else if x = ⟨0, 0⟩ then 3 else 0
def rebornS (c : Cfg) (i : Int) (x : Draw) : State := if rebornErr c i x ≠ 0 then zeroS else ⟨i, 3, 0, 0, [], 0, (List.replicate (NN c).toNat ⟨0, 0⟩).set i.toNat x, 0, [], [], [], []⟩
theorem self_of {c : Cfg} {i : Int} (he : selfErr c i = 0) : cfgOk c ∧ 0 ≤ i ∧ i < NN c := by
 unfold selfErr at he
 split at he
 ·rename_i hc
  split at he
  ·rename_i hi; exact ⟨hc, hi⟩
  ·simp at he
 ·simp at he
theorem reborn_ok (c : Cfg) (i : Int) (x : Draw) : stateErr c (rebornS c i x) = 0 ↔ rebornErr c i x = 0 := by
 unfold rebornS
 by_cases he : rebornErr c i x = 0
 ·rw [if_neg (by simp [he])]
  simp only [he, iff_true]
  have h1 : selfErr c i = 0 ∧ x ≠ ⟨0, 0⟩ := by
   unfold rebornErr at he
   split at he
   ·rename_i h; exact absurd he h
   ·rename_i h
    split at he
    ·simp at he
    ·rename_i h2; exact ⟨by simpa using h, h2⟩
  obtain ⟨hc, h2, h3⟩ := self_of h1.1
  have hc' := hc
  unfold cfgOk at hc'
  rw [stateErr_iff]
  refine ⟨hc, ?_, ?_, ?_, ?_⟩
  ·unfold headOff
   rw [nodesOf_ok hc]
   simp
   omega
  ·unfold logOk
   simp [logErr_nil hc]
  ·simp [votedOk, mkList, firstBad]
  ·have hg : selfDraw ⟨i, 3, 0, 0, [], 0, (List.replicate (NN c).toNat ⟨0, 0⟩).set i.toNat x, 0, [], [], [], []⟩ = x := by
    unfold selfDraw
    have : i.toNat < (NN c).toNat := by omega
    simp [List.getD, this]
   unfold bodyOk recoverOk
   rw [hg]
   simp [recHead, h1.2]
 ·rw [if_pos he]
  simp only [he, iff_false]
  exact err_zero c
theorem e_core_Reborn (c : Cfg) (i : Int) (x : Draw) : runFn T n (d + 4) 43 [.dat (encCfg c), .dat (di i), .dat (encD x)] [] = some (.tup [.dat (encS (rebornS c i x)), .dat (di (rebornErr c i x))], []) := by
 have h1 := e_core_self (n := n) (d := d) c i
 have h2 := e_core_Nodes (n := n) (d := d + 1) c
 rw [runFn_succ]
 unfold rebornS rebornErr
 by_cases he : selfErr c i = 0
 ·obtain ⟨hc, hi1, hi2⟩ := self_of he
  rw [nodesOf_ok hc] at h2
  have hf : 1 ≤ NN c ∧ NN c ≤ 7 := by unfold cfgOk at hc; simp only [NN]; omega
  have h3 := e_vector_New (n := n) (d := d + 2) (NN c) hf
  rw [he] at h1 ⊢
  by_cases hx : x = ⟨0, 0⟩
  ·subst hx
   simp [T, xf_core_Reborn, h1, zeroS]
  ·have hx2 : (x.hi = 0 ∧ x.lo = 0) = False := eq_false fun a => hx (by cases x; simp_all)
   generalize NN c = K at *
   obtain ⟨k, rfl⟩ := Int.eq_ofNat_of_zero_le (show 0 ≤ K by omega)
   obtain ⟨j, rfl⟩ := Int.eq_ofNat_of_zero_le hi1
   have hjk : j < k := by omega
   have hjk2 : (j : Int) < k := by omega
   simp at h3
   simp [T, xf_core_Reborn, h1, h2, h3, hx, hx2, hjk, hjk2]
   exact List.take_of_length_le (by simp)
 ·simp [T, xf_core_Reborn, h1, he, zeroS]
end Go.Ax
namespace Go.Ax
set_option linter.all false
variable {n d : Nat}
set_option maxRecDepth 10000
set_option maxHeartbeats 4000000
theorem e_ref09_self (c : Cfg) (i : Int) : runFn T n (d + 4) 82 [.dat (encCfg c), .dat (di i)] [] = some (.dat (di (selfErr c i)), []) := by
 have h1 := e_ref09_CheckConfig (n := n) (d := d + 1) c
 have h2 := e_ref09_Nodes (n := n) (d := d) c
 rw [runFn_succ]
 unfold selfErr
 by_cases hc : cfgOk c
 ·rw [if_pos hc] at h1 ⊢
  rw [nodesOf_ok hc] at h2
  by_cases h3 : i < 0
  ·have h4 : ¬ (0 ≤ i ∧ i < NN c) := by omega
   rw [if_neg h4]
   simp [T, xf_ref09_self, h1, h2, h3]
  ·by_cases h5 : NN c ≤ i
   ·have h4 : ¬ (0 ≤ i ∧ i < NN c) := by omega
    rw [if_neg h4]
    simp [T, xf_ref09_self, h1, h2, h3, h5]
   ·have h4 : (0 ≤ i ∧ i < NN c) := by omega
    rw [if_pos h4]
    simp [T, xf_ref09_self, h1, h2, h3, h5]
 ·rw [if_neg hc] at h1 ⊢
  simp [T, xf_ref09_self, h1]
theorem e_ref09_Reborn (c : Cfg) (i : Int) (x : Draw) : runFn T n (d + 5) 45 [.dat (encCfg c), .dat (di i), .dat (encD x)] [] = some (.tup [.dat (encS (rebornS c i x)), .dat (di (rebornErr c i x))], []) := by
 have h1 := e_ref09_self (n := n) (d := d) c i
 have h2 := e_ref09_Nodes (n := n) (d := d + 1) c
 rw [runFn_succ]
 unfold rebornS rebornErr
 by_cases he : selfErr c i = 0
 ·obtain ⟨hc, hi1, hi2⟩ := self_of he
  rw [nodesOf_ok hc] at h2
  have hf : 1 ≤ NN c ∧ NN c ≤ 7 := by unfold cfgOk at hc; simp only [NN]; omega
  have hL : NN c ≤ (LIM : Int) := by simp only [LIM]; omega
  have h3 : 0 ≤ NN c := by omega
  generalize NN c = K at *
  rw [he] at h1 ⊢
  by_cases hx : x = ⟨0, 0⟩
  ·subst hx
   simp [T, xf_ref09_Reborn, h1, zeroS]
  ·have hx2 : (x.hi = 0 ∧ x.lo = 0) = False := eq_false fun a => hx (by cases x; simp_all)
   obtain ⟨k, rfl⟩ := Int.eq_ofNat_of_zero_le h3
   obtain ⟨j, rfl⟩ := Int.eq_ofNat_of_zero_le hi1
   have hjk : j < k := by omega
   have hjk2 : (j : Int) < k := by omega
   have hL2 : k ≤ LIM := by simp only [LIM]; omega
   simp [T, xf_ref09_Reborn, h1, h2, hL, hL2, hx, hx2, hjk, hjk2]
   exact List.take_of_length_le (by simp)
 ·simp [T, xf_ref09_Reborn, h1, he, zeroS]
end Go.Ax
namespace Go.Ax
set_option linter.all false
variable {n d : Nat}
set_option maxRecDepth 10000
set_option maxHeartbeats 8000000
end Go.Ax
