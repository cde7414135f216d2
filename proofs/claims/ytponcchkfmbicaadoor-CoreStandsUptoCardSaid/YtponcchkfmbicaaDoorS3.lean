/-
  CoreConfigs, evaluated.
-/
import Derived.Test.YtponcchkfmbicaaDoorS2
import Derived.Test.YtponcchkfmbicaaDoorED
namespace Go.Ax
set_option linter.all false
variable {n d : Nat}
set_option maxRecDepth 10000
set_option linter.unusedSimpArgs false
set_option maxHeartbeats 4000000

theorem e_ref09_self (c : Cfg) (i : Int) : runFn T n (d + 4) 25 [.dat (encCfg c), .dat (di i)] [] = some (.dat (di (selfErr c i)), []) := by
  have h1 := e_ref09_CheckConfig (n := n) (d := d + 1) c
  have h2 := e_ref09_Nodes (n := n) (d := d) c
  rw [runFn_succ]
  unfold selfErr
  by_cases hc : cfgOk c
  · rw [if_pos hc] at h1 ⊢
    rw [nodesOf_ok hc] at h2
    by_cases h3 : i < 0
    · have h4 : ¬ (0 ≤ i ∧ i < NN c) := by omega
      rw [if_neg h4]
      simp [T, xf_ref09_self, h1, h2, h3]
    · by_cases h5 : NN c ≤ i
      · have h4 : ¬ (0 ≤ i ∧ i < NN c) := by omega
        rw [if_neg h4]
        simp [T, xf_ref09_self, h1, h2, h3, h5]
      · have h4 : (0 ≤ i ∧ i < NN c) := by omega
        rw [if_pos h4]
        simp [T, xf_ref09_self, h1, h2, h3, h5]
  · rw [if_neg hc] at h1 ⊢
    simp [T, xf_ref09_self, h1]
theorem e_ref09_First (c : Cfg) (i : Int) : runFn T n (d + 5) 6 [.dat (encCfg c), .dat (di i)] [] = some (.tup [.dat (encS (firstS c i)), .dat (di (selfErr c i))], []) := by
  have h1 := e_ref09_self (n := n) (d := d) c i
  have h2 := e_ref09_Nodes (n := n) (d := d + 1) c
  rw [runFn_succ]
  unfold firstS
  by_cases he : selfErr c i = 0
  · obtain ⟨hc, hi1, hi2⟩ := self_of he
    rw [nodesOf_ok hc] at h2
    have hf : 1 ≤ NN c ∧ NN c ≤ 7 := by unfold cfgOk at hc; simp only [NN]; omega
    have hL : NN c ≤ (LIM : Int) := by simp only [LIM]; omega
    have h3 : 0 ≤ NN c := by omega
    generalize NN c = K at *
    rw [he] at h1 ⊢
    simp [T, xf_ref09_First, h1, h2, h3, hL]
  · simp [T, xf_ref09_First, h1, he, zeroS]
theorem e_ref09_Reborn (c : Cfg) (i : Int) (x : Draw) : runFn T n (d + 5) 8 [.dat (encCfg c), .dat (di i), .dat (encD x)] [] = some (.tup [.dat (encS (rebornS c i x)), .dat (di (rebornErr c i x))], []) := by
  have h1 := e_ref09_self (n := n) (d := d) c i
  have h2 := e_ref09_Nodes (n := n) (d := d + 1) c
  rw [runFn_succ]
  unfold rebornS rebornErr
  by_cases he : selfErr c i = 0
  · obtain ⟨hc, hi1, hi2⟩ := self_of he
    rw [nodesOf_ok hc] at h2
    have hf : 1 ≤ NN c ∧ NN c ≤ 7 := by unfold cfgOk at hc; simp only [NN]; omega
    have hL : NN c ≤ (LIM : Int) := by simp only [LIM]; omega
    have h3 : 0 ≤ NN c := by omega
    generalize NN c = K at *
    rw [he] at h1 ⊢
    by_cases hx : x = ⟨0, 0⟩
    · subst hx
      simp [T, xf_ref09_Reborn, h1, zeroS]
    · have hx2 : (x.hi = 0 ∧ x.lo = 0) = False := eq_false fun a => hx (by cases x; simp_all)
      obtain ⟨k, rfl⟩ := Int.eq_ofNat_of_zero_le h3
      obtain ⟨j, rfl⟩ := Int.eq_ofNat_of_zero_le hi1
      have hjk : j < k := by omega
      have hjk2 : (j : Int) < k := by omega
      have hL2 : k ≤ LIM := by simp only [LIM]; omega
      simp [T, xf_ref09_Reborn, h1, h2, hL, hL2, hx, hx2, hjk, hjk2]
      exact List.take_of_length_le (by simp)
  · simp [T, xf_ref09_Reborn, h1, he, zeroS]
theorem small_first (c : Cfg) (i : Int) : Small (firstS c i) := by
  unfold firstS
  by_cases he : selfErr c i = 0
  · obtain ⟨hc, hi1, hi2⟩ := self_of he
    unfold cfgOk at hc
    rw [if_neg (by simp [he])]
    exact ⟨by simp, by simp [NN]; omega, by simp, by simp, by simp, by simp, by simp, by simp⟩
  · rw [if_pos he]
    exact ⟨by simp [zeroS], by simp [zeroS], by simp [zeroS], by simp [zeroS], by simp [zeroS], by simp [zeroS], by simp [zeroS], by simp [zeroS]⟩
theorem small_reborn (c : Cfg) (i : Int) (x : Draw) : Small (rebornS c i x) := by
  unfold rebornS
  by_cases he : rebornErr c i x = 0
  · have h1 : selfErr c i = 0 := by
      unfold rebornErr at he
      split at he
      · exact he
      · rename_i h; simpa using h
    obtain ⟨hc, hi1, hi2⟩ := self_of h1
    unfold cfgOk at hc
    rw [if_neg (by simp [he])]
    exact ⟨by simp, by simp [NN]; omega, by simp, by simp, by simp, by simp, by simp, by simp⟩
  · rw [if_pos he]
    exact ⟨by simp [zeroS], by simp [zeroS], by simp [zeroS], by simp [zeroS], by simp [zeroS], by simp [zeroS], by simp [zeroS], by simp [zeroS]⟩
theorem law_CoreConfigs (c : Cfg) (view self : Int) (x : Draw) (hn : 2097157 < n) : ∃ H, runFn T n (d + 10) 3 [.dat (encCfg c), .dat (di view), .dat (di self), .dat (encD x)] [] = some (.dat (.bool true), H) := by
  have al := e_alive (n := n) (d := d + 1) (by omega)
  have f1 := e_core_First (n := n) (d := d + 5) c self
  have f2 := e_ref09_First (n := n) (d := d + 4) c self
  have r1 := e_core_Reborn (n := n) (d := d + 5) c self x
  have r2 := e_ref09_Reborn (n := n) (d := d + 4) c self x
  have k1 := e_core_CheckConfig (n := n) (d := d + 8) c
  have k2 := e_ref09_CheckConfig (n := n) (d := d + 7) c
  have m1 := e_core_Nodes (n := n) (d := d + 7) c
  have m2 := e_ref09_Nodes (n := n) (d := d + 6) c
  have p1 := e_core_Primary (n := n) (d := d + 6) c view
  have p2 := e_ref09_Primary (n := n) (d := d + 5) c view
  have s1 := e_plain_SameState (n := n) (d := d + 6) (firstS c self) (small_first c self) (by omega)
  have s2 := e_plain_SameState (n := n) (d := d + 6) (rebornS c self x) (small_reborn c self x) (by omega)
  have nm := fun k => e_num (n := n) (d := d + 8) k
  generalize (if cfgOk c then (0 : Int) else 1) = K at *
  generalize nodesOf c = K2 at *
  generalize primaryOf c view = K3 at *
  generalize firstS c self = F at *
  generalize rebornS c self x = R at *
  rw [runFn_succ]
  simp [T, xf_law09_CoreConfigs, al, f1, f2, r1, r2, k1, k2, m1, m2, p1, p2, s1, s2, nm]
end Go.Ax
