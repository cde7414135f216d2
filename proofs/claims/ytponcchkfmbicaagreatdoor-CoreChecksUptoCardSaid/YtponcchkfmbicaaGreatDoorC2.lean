/-
  CoreChecks, evaluated.
-/
import Derived.Test.YtponcchkfmbicaaGreatDoorG2
import Derived.Test.YtponcchkfmbicaaGreatDoorEQ
import Derived.Test.YtponcchkfmbicaaGreatDoorM18
import Derived.Test.YtponcchkfmbicaaGreatDoorMF
namespace Go.Ax
set_option linter.all false
variable {n d : Nat}
set_option maxRecDepth 10000
set_option linter.unusedSimpArgs false
set_option maxHeartbeats 16000000

theorem gt_map (s t : State) : gtE1 (gsE1 s s.answers) t t.answers = (gsL s ++ gsL t).map rE := by
  rw [List.map_append, ← gsL_map, ← gsL_map]
  simp [gtE1, gsE1]
theorem law_CoreChecks (c : Cfg) (s t : State) (hs : Small2 s) (ht : Small2 t) (hn : 6097157 < n) : ∃ H, runFn T n (d + 10) 7 [.dat (encCfg c), .dat (encS s), .dat (encS t)] [] = some (.dat (.bool true), H) := by
  have al := e_alive (n := n) (d := d + 1) (by omega)
  have g := e_Given_State (n := n) (d := d + 6) s hs (by omega)
  have hb := hs.ballots
  have ha := hs.answers
  have hb2 := ht.ballots
  have ha2 := ht.answers
  have hgl : (gsE1 s s.answers).length ≤ 2500000 ∧ 0 < (gsE1 s s.answers).length := by
    constructor
    · simp [gsE1]; omega
    · simp [gsE1]
  have g2 := e_Given_State2 (n := n) (d := d + 6) t [rD s.vector] (gsE1 s s.answers) [encS s] (by simp) (by simp) hgl.1 hgl.2 (by simp) (by simp) ht (by omega)
  have o1 := e_core_Check (n := n) (d := d + 4) c s hs.toSmall (by omega)
  have o2 := e_ref09_Check (n := n) (d := d + 2) c s hs.toSmall (by omega)
  have n1 := e_num (n := n) (d := d + 8) (stateErr c s)
  have a1 := eq_core_Alike (n := n) (d := d + 5) s t hs.toSmall (by omega)
  have a2 := eq_core_Alike (n := n) (d := d + 5) t s ht.toSmall (by omega)
  have a3 := eq_core_Alike (n := n) (d := d + 5) s s hs.toSmall (by omega)
  have m1 := eq_plain_SameState (n := n) (d := d + 6) s t hs.toSmall (by omega)
  have hin := e_Intact (n := n) (d := d + 5) [s.vector, t.vector] (gsL s ++ gsL t) [s, t] (by simp) (by
      intro x hx
      simp only [List.mem_cons, List.not_mem_nil, or_false] at hx
      rcases hx with rfl | rfl
      · exact hs.vector2
      · exact ht.vector2) (by simp [gsL]; omega) (by simp [gsL]; omega) (by
    intro l hl
    simp only [gsL, List.mem_cons, List.mem_append, List.mem_map] at hl
    rcases hl with (rfl | ⟨b, hb, rfl⟩ | ⟨b, hb, rfl⟩) | (rfl | ⟨b, hb, rfl⟩ | ⟨b, hb, rfl⟩)
    · exact hs.log2
    · exact hs.blogs2 b hb
    · exact hs.alogs2 b hb
    · exact ht.log2
    · exact ht.blogs2 b hb
    · exact ht.alogs2 b hb) (by simp) (by
      intro x hx
      simp only [List.mem_cons, List.not_mem_nil, or_false] at hx
      rcases hx with rfl | rfl
      · exact hs.toSmall
      · exact ht.toSmall) (by omega)
  rw [decide_eq_true rfl] at a3
  rw [show decide (t = s) = decide (s = t) from by by_cases h : s = t <;> simp [h, eq_comm]] at a2
  generalize decide (s = t) = B at a1 a2 m1
  rw [gt_map] at g2
  simp only [List.length_map, List.length_cons, List.length_nil, Nat.zero_add, List.cons_append, List.nil_append] at g2
  simp only [HI, List.map_cons, List.map_nil, List.length_cons, List.length_nil, Nat.zero_add] at hin
  unfold givAV givH at g
  generalize gsL s ++ gsL t = L at g2 hin
  generalize gsE1 s s.answers = E at g g2
  generalize stateErr c s = SE at *
  rw [runFn_succ]
  simp (maxSteps := 2000000) [T, xf_law09_CoreChecks, al, g, g2, o1, o2, n1, a1, a2, a3, m1, hin]
end Go.Ax
