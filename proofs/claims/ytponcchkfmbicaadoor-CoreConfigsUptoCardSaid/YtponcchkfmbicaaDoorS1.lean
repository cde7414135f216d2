/-
  First lives, later lives, ticks stay what may be: plain.
-/
import Derived.Test.YtponcchkfmbicaaDoorM18
import Derived.Test.YtponcchkfmbicaaDoorM17
import Derived.Test.YtponcchkfmbicaaDoorXW
namespace Go.Ax
set_option linter.all false
set_option maxRecDepth 10000
set_option linter.unusedSimpArgs false
set_option maxHeartbeats 4000000

theorem nodesOf_ok {c : Cfg} (h : cfgOk c) : nodesOf c = NN c := by unfold nodesOf; rw [if_pos h]
/-- A clock may stand anywhere below the patience while the replica waits. -/
theorem idle_ok {c : Cfg} {s : State} {k : Int} (h : stateErr c s = 0) (hs : still c s = false) (hk : 0 ≤ k ∧ k < c.patience) : stateErr c { s with idle := k } = 0 ∧ still c { s with idle := k } = false := by
  rw [stateErr_iff] at h ⊢
  obtain ⟨hc, hh, hl, hv, hb⟩ := h
  refine ⟨⟨hc, ?_, hl, (votedOk_congr (s := s) (t := { s with idle := k }) rfl rfl rfl rfl rfl rfl).trans hv, ?_⟩, hs⟩
  · unfold headOff at hh ⊢
    simp only [Bool.or_eq_false_iff] at hh ⊢
    obtain ⟨⟨⟨⟨⟨⟨⟨⟨h1, h2⟩, h3⟩, h4⟩, h5⟩, h6⟩, h7⟩, h8⟩, h9⟩ := hh
    exact ⟨⟨⟨⟨⟨⟨⟨⟨h1, h2⟩, h3⟩, h4⟩, h5⟩, h6⟩, decide_eq_false (by omega)⟩, decide_eq_false (by omega)⟩, h9⟩
  · unfold still at hs
    simp only [Bool.or_eq_false_iff, Bool.and_eq_false_iff, decide_eq_false_iff_not] at hs
    unfold bodyOk at hb ⊢
    show (if s.status = 1 then normalOk c { s with idle := k } else if s.status = 2 then changingOk c { s with idle := k } else if s.status = 3 then recoverOk c { s with idle := k } else false) = true
    by_cases s1 : s.status = 1
    · rw [if_pos s1] at hb ⊢
      have hl : leads c s = false := by
        rcases hs.2 with h | h
        · exact absurd s1 h
        · exact h
      unfold normalOk at hb ⊢
      have hl2 : leads c { s with idle := k } = leads c s := rfl
      rw [hl] at hb
      rw [hl2, hl]
      exact hb
    · rw [if_neg s1] at hb ⊢
      by_cases s2 : s.status = 2
      · rw [if_pos s2] at hb ⊢
        exact hb
      · rw [if_neg s2] at hb ⊢
        rw [if_neg hs.1] at hb
        cases hb
theorem wait_ok {c : Cfg} {s : State} (h : stateErr c s = 0) : stateErr c (waitS c s) = 0 := by
  unfold waitS
  rw [if_neg (by simp [h])]
  split
  · exact h
  · rename_i hs
    have hs : still c s = false := by simpa using hs
    obtain ⟨hc, hh, _⟩ := ok_of_err h
    have hi : 0 ≤ s.idle ∧ s.idle < c.patience := by simp [headOff] at hh; omega
    split
    · exact (idle_ok h hs (by omega)).1
    · exact (idle_ok h hs (by unfold cfgOk at hc; omega)).1
theorem err_zero (c : Cfg) : stateErr c zeroS ≠ 0 := by
  intro h
  rw [stateErr_iff] at h
  obtain ⟨hc, hh, _⟩ := h
  unfold headOff at hh
  rw [nodesOf_ok hc] at hh
  unfold cfgOk at hc
  simp [zeroS, NN] at hh
  have := of_decide_eq_true hh.2
  omega
theorem logErr_nil {c : Cfg} (hc : cfgOk c) : logErr [] c.room = 0 := by
  unfold cfgOk at hc
  unfold logErr logErr1
  rw [if_neg (by omega), if_neg (by simp; omega)]
theorem first_ok (c : Cfg) (i : Int) : stateErr c (firstS c i) = 0 ↔ selfErr c i = 0 := by
  unfold firstS
  by_cases he : selfErr c i = 0
  · rw [if_neg (by simp [he])]
    simp only [he, iff_true]
    unfold selfErr at he
    split at he
    · rename_i hc
      split at he
      · rename_i hi
        have hc' := hc
        unfold cfgOk at hc'
        rw [stateErr_iff]
        refine ⟨hc, ?_, ?_, ?_, ?_⟩
        · unfold headOff
          rw [nodesOf_ok hc]
          simp
          omega
        · unfold logOk
          simp [logErr_nil hc]
        · simp [votedOk, mkList, firstBad]
        · unfold bodyOk normalOk
          simp
      · simp at he
    · simp at he
  · rw [if_pos he]
    simp only [he, iff_false]
    exact err_zero c
end Go.Ax
