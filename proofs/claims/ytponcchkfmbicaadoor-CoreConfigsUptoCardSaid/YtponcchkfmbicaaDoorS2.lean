/-
  Later lives, commit numbers that go up: plain, and Reborn evaluated.
-/
import Derived.Test.YtponcchkfmbicaaDoorS1
import Derived.Test.YtponcchkfmbicaaDoorEH
namespace Go.Ax
set_option linter.all false
variable {n d : Nat}
set_option maxRecDepth 10000
set_option linter.unusedSimpArgs false
set_option maxHeartbeats 4000000

def rebornErr (c : Cfg) (i : Int) (x : Draw) : Int := if selfErr c i ≠ 0 then selfErr c i else if x = ⟨0, 0⟩ then 3 else 0
def rebornS (c : Cfg) (i : Int) (x : Draw) : State := if rebornErr c i x ≠ 0 then zeroS else ⟨i, 3, 0, 0, [], 0, (List.replicate (NN c).toNat ⟨0, 0⟩).set i.toNat x, 0, [], [], [], []⟩
theorem self_of {c : Cfg} {i : Int} (he : selfErr c i = 0) : cfgOk c ∧ 0 ≤ i ∧ i < NN c := by
  unfold selfErr at he
  split at he
  · rename_i hc
    split at he
    · rename_i hi; exact ⟨hc, hi⟩
    · simp at he
  · simp at he
theorem reborn_ok (c : Cfg) (i : Int) (x : Draw) : stateErr c (rebornS c i x) = 0 ↔ rebornErr c i x = 0 := by
  unfold rebornS
  by_cases he : rebornErr c i x = 0
  · rw [if_neg (by simp [he])]
    simp only [he, iff_true]
    have h1 : selfErr c i = 0 ∧ x ≠ ⟨0, 0⟩ := by
      unfold rebornErr at he
      split at he
      · rename_i h; exact absurd he h
      · rename_i h
        split at he
        · simp at he
        · rename_i h2; exact ⟨by simpa using h, h2⟩
    obtain ⟨hc, h2, h3⟩ := self_of h1.1
    have hc' := hc
    unfold cfgOk at hc'
    rw [stateErr_iff]
    refine ⟨hc, ?_, ?_, ?_, ?_⟩
    · unfold headOff
      rw [nodesOf_ok hc]
      simp
      omega
    · unfold logOk
      simp [logErr_nil hc]
    · simp [votedOk, mkList, firstBad]
    · have hg : selfDraw ⟨i, 3, 0, 0, [], 0, (List.replicate (NN c).toNat ⟨0, 0⟩).set i.toNat x, 0, [], [], [], []⟩ = x := by
        unfold selfDraw
        have : i.toNat < (NN c).toNat := by omega
        simp [List.getD, this]
      unfold bodyOk recoverOk
      rw [hg]
      simp [recHead, h1.2]
  · rw [if_pos he]
    simp only [he, iff_false]
    exact err_zero c
theorem e_core_Reborn (c : Cfg) (i : Int) (x : Draw) : runFn T n (d + 4) 7 [.dat (encCfg c), .dat (di i), .dat (encD x)] [] = some (.tup [.dat (encS (rebornS c i x)), .dat (di (rebornErr c i x))], []) := by
  have h1 := e_core_self (n := n) (d := d) c i
  have h2 := e_core_Nodes (n := n) (d := d + 1) c
  rw [runFn_succ]
  unfold rebornS rebornErr
  by_cases he : selfErr c i = 0
  · obtain ⟨hc, hi1, hi2⟩ := self_of he
    rw [nodesOf_ok hc] at h2
    have hf : 1 ≤ NN c ∧ NN c ≤ 7 := by unfold cfgOk at hc; simp only [NN]; omega
    have h3 := e_vector_New (n := n) (d := d + 2) (NN c) hf
    rw [he] at h1 ⊢
    by_cases hx : x = ⟨0, 0⟩
    · subst hx
      simp [T, xf_core_Reborn, h1, zeroS]
    · have hx2 : (x.hi = 0 ∧ x.lo = 0) = False := eq_false fun a => hx (by cases x; simp_all)
      generalize NN c = K at *
      obtain ⟨k, rfl⟩ := Int.eq_ofNat_of_zero_le (show 0 ≤ K by omega)
      obtain ⟨j, rfl⟩ := Int.eq_ofNat_of_zero_le hi1
      have hjk : j < k := by omega
      have hjk2 : (j : Int) < k := by omega
      simp at h3
      simp [T, xf_core_Reborn, h1, h2, h3, hx, hx2, hjk, hjk2]
      exact List.take_of_length_le (by simp)
  · simp [T, xf_core_Reborn, h1, he, zeroS]
theorem carry_ok {c : Cfg} {s : State} {to : Int} (h : stateErr c s = 0) (hc : carryErr c s to = 0) : stateErr c (carryS c s to) = 0 := by
  unfold carryS
  rw [if_neg (by simp [hc])]
  split
  · exact h
  · rename_i hto
    have hb : 0 ≤ to ∧ to ≤ s.log.length := by
      unfold carryErr at hc
      rw [if_neg (by simp [h])] at hc
      split at hc
      · simp at hc
      · omega
    rw [stateErr_iff] at h ⊢
    obtain ⟨h1, h2, h3, h4, h5⟩ := h
    refine ⟨h1, h2, ?_, (votedOk_congr (s := s) (t := { s with commit := to }) rfl rfl rfl rfl rfl rfl).trans h4, ?_⟩
    · unfold logOk at h3 ⊢
      simp only [Bool.and_eq_true, decide_eq_true_eq] at h3 ⊢
      exact ⟨⟨h3.1.1, hb.1⟩, hb.2⟩
    · unfold bodyOk at h5 ⊢
      show (if s.status = 1 then normalOk c { s with commit := to } else if s.status = 2 then changingOk c { s with commit := to } else if s.status = 3 then recoverOk c { s with commit := to } else false) = true
      by_cases s1 : s.status = 1
      · rw [if_pos s1] at h5 ⊢; exact h5
      · rw [if_neg s1] at h5 ⊢
        by_cases s2 : s.status = 2
        · rw [if_pos s2] at h5 ⊢; exact h5
        · rw [if_neg s2] at h5 ⊢
          by_cases s3 : s.status = 3
          · rw [if_pos s3] at h5
            unfold recoverOk recHead at h5
            simp only [Bool.and_eq_true, Bool.not_eq_true', Bool.or_eq_false_iff, Bool.not_eq_false'] at h5
            obtain ⟨⟨⟨⟨⟨⟨⟨⟨⟨q1, q2⟩, q3⟩, q4⟩, q5⟩, _⟩, _⟩, _⟩, _⟩, _⟩ := h5
            rw [List.isEmpty_iff] at q5
            have := of_decide_eq_true q3
            rw [q5] at hb
            simp at hb
            omega
          · rw [if_neg s3] at h5; cases h5
end Go.Ax
