/-
  CoreStands, evaluated.
-/
import Derived.Test.YtponcchkfmbicaaDoorS3
import Derived.Test.YtponcchkfmbicaaDoorEH
import Derived.Test.YtponcchkfmbicaaDoorM19
namespace Go.Ax
set_option linter.all false
variable {n d : Nat}
set_option maxRecDepth 10000
set_option linter.unusedSimpArgs false
set_option maxHeartbeats 8000000

theorem small_wait {s : State} (h : Small s) (c : Cfg) : Small (waitS c s) := by
  unfold waitS
  split
  · exact ⟨by simp [zeroS], by simp [zeroS], by simp [zeroS], by simp [zeroS], by simp [zeroS], by simp [zeroS], by simp [zeroS], by simp [zeroS]⟩
  · split
    · exact h
    · split
      · exact ⟨h.log, h.vector, h.acks, h.marks, h.ballots, h.answers, h.blogs, h.alogs⟩
      · exact ⟨h.log, h.vector, h.acks, h.marks, h.ballots, h.answers, h.blogs, h.alogs⟩
theorem small_carry {s : State} (h : Small s) (c : Cfg) (to : Int) : Small (carryS c s to) := by
  unfold carryS
  split
  · exact ⟨by simp [zeroS], by simp [zeroS], by simp [zeroS], by simp [zeroS], by simp [zeroS], by simp [zeroS], by simp [zeroS], by simp [zeroS]⟩
  · split
    · exact h
    · exact ⟨h.log, h.vector, h.acks, h.marks, h.ballots, h.answers, h.blogs, h.alogs⟩
theorem law_CoreStands (c : Cfg) (s : State) (m : Msg) (to : Int) (x : Draw) (hs : Small2 s) (hm : SmallM m) (hN : ∀ x ∈ s.vector, Nn x) (hn : 2097157 < n) : ∃ H, runFn T n (d + 10) 4 [.dat (encCfg c), .dat (encS s), .dat (encM m), .dat (di to), .dat (encD x)] [] = some (.dat (.bool true), H) := by
  have al := e_alive (n := n) (d := d + 1) (by omega)
  have f1 := e_core_First (n := n) (d := d + 5) c to
  have r1 := e_core_Reborn (n := n) (d := d + 5) c to x
  have k1 := e_core_Check (n := n) (d := d + 4) c (firstS c to) (small_first c to) (by omega)
  have k2 := e_core_Check (n := n) (d := d + 4) c (rebornS c to x) (small_reborn c to x) (by omega)
  have k3 := e_core_Check (n := n) (d := d + 4) c s hs.toSmall (by omega)
  have a1 := e_core_Admit (n := n) (d := d + 3) c s m hs.toSmall (by have := hm.log; omega) hN (by omega)
  have w1 := e_core_Wait (n := n) (d := d + 3) c s hs.toSmall (by omega)
  have c1 := e_core_Carry (n := n) (d := d + 3) c s to hs.toSmall (by omega)
  have m1 := e_message_Check (n := n) (d := d + 6) c m (by have := hm.log; omega) (by omega)
  have nm := fun k => e_num (n := n) (d := d + 8) k
  have i1 : (stateErr c (firstS c to) = 0) = (selfErr c to = 0) := propext (first_ok c to)
  have i2 : (stateErr c (rebornS c to x) = 0) = (rebornErr c to x = 0) := propext (reborn_ok c to x)
  generalize hK1 : stateErr c (firstS c to) = K1 at *
  generalize hK2 : stateErr c (rebornS c to x) = K2 at *
  generalize firstS c to = F at *
  generalize rebornS c to x = R at *
  generalize carryL c s to = L at *
  generalize admB c s m = B at *
  generalize waitB c s = WB at *
  rw [runFn_succ]
  by_cases he : stateErr c s = 0
  · have hE : admErr c s m = msgErr c m := by unfold admErr; rw [if_neg (by simp [he])]
    have hC : (carryErr c s to = 0) = (0 ≤ to ∧ to ≤ s.log.length) := by
      unfold carryErr
      rw [if_neg (by simp [he])]
      split
      · rename_i h; simp; omega
      · rename_i h; simp; omega
    have hW := e_core_Check (n := n) (d := d + 4) c (waitS c s) (small_wait hs.toSmall c) (by omega)
    rw [wait_ok he] at hW
    rw [he] at k3 w1
    rw [hE] at a1
    generalize waitS c s = W at *
    by_cases hme : msgErr c m = 0
    · have hA := e_core_Check (n := n) (d := d + 4) c (admS c s m) (hs.adm he hme).toSmall (by omega)
      rw [admS_ok he hme] at hA
      rw [hme] at a1 m1
      generalize admS c s m = A at *
      by_cases hc : carryErr c s to = 0
      · have hCk := e_core_Check (n := n) (d := d + 4) c (carryS c s to) (small_carry hs.toSmall c to) (by omega)
        rw [carry_ok he hc] at hCk
        have hc' : 0 ≤ to ∧ to ≤ s.log.length := by rw [hC] at hc; exact hc
        rw [hc] at c1
        generalize carryS c s to = C at *
        simp [T, xf_law09_CoreStands, al, f1, r1, k1, k2, k3, a1, w1, c1, m1, nm, i1, i2, hW, hA, hCk, hc'.1, hc'.2]
      · have hc' : (decide (0 ≤ to) && decide (to ≤ (s.log.length : Int))) = false := by
          rw [← Bool.not_eq_true]; intro h; simp only [Bool.and_eq_true, decide_eq_true_eq] at h; exact hc (by rw [hC]; exact h)
        generalize carryS c s to = C at *
        generalize hce : carryErr c s to = CE at *
        by_cases h0 : 0 ≤ to
        · have h1 : ¬ to ≤ s.log.length := by simpa [h0] using hc'
          simp [T, xf_law09_CoreStands, al, f1, r1, k1, k2, k3, a1, w1, c1, m1, nm, i1, i2, hW, hA, hc, h0, h1]
        · simp [T, xf_law09_CoreStands, al, f1, r1, k1, k2, k3, a1, w1, c1, m1, nm, i1, i2, hW, hA, hc, h0]
    · generalize admS c s m = A at *
      generalize hme' : msgErr c m = ME at *
      by_cases hc : carryErr c s to = 0
      · have hCk := e_core_Check (n := n) (d := d + 4) c (carryS c s to) (small_carry hs.toSmall c to) (by omega)
        rw [carry_ok he hc] at hCk
        have hc' : 0 ≤ to ∧ to ≤ s.log.length := by rw [hC] at hc; exact hc
        rw [hc] at c1
        generalize carryS c s to = C at *
        simp [T, xf_law09_CoreStands, al, f1, r1, k1, k2, k3, a1, w1, c1, m1, nm, i1, i2, hW, hme, hCk, hc'.1, hc'.2]
      · have hc' : (decide (0 ≤ to) && decide (to ≤ (s.log.length : Int))) = false := by
          rw [← Bool.not_eq_true]; intro h; simp only [Bool.and_eq_true, decide_eq_true_eq] at h; exact hc (by rw [hC]; exact h)
        generalize carryS c s to = C at *
        generalize hce : carryErr c s to = CE at *
        by_cases h0 : 0 ≤ to
        · have h1 : ¬ to ≤ s.log.length := by simpa [h0] using hc'
          simp [T, xf_law09_CoreStands, al, f1, r1, k1, k2, k3, a1, w1, c1, m1, nm, i1, i2, hW, hme, hc, h0, h1]
        · simp [T, xf_law09_CoreStands, al, f1, r1, k1, k2, k3, a1, w1, c1, m1, nm, i1, i2, hW, hme, hc, h0]
  · have hE : admErr c s m = stateErr c s := by unfold admErr; rw [if_pos he]
    have hC : carryErr c s to = stateErr c s := by unfold carryErr; rw [if_pos he]
    rw [hE] at a1
    rw [hC] at c1
    generalize admS c s m = A at *
    generalize waitS c s = W at *
    generalize carryS c s to = C at *
    generalize hSE : stateErr c s = SE at *
    simp [T, xf_law09_CoreStands, al, f1, r1, k1, k2, k3, a1, w1, c1, m1, nm, i1, i2, he]
end Go.Ax
