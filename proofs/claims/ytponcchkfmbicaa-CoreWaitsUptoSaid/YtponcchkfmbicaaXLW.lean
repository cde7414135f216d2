/-
  CoreWaits, evaluated.
-/
import Derived.Test.YtponcchkfmbicaaED
namespace Go.Ax
variable {n d : Nat}
set_option maxRecDepth 10000
set_option linter.unusedSimpArgs false
set_option maxHeartbeats 4000000

theorem e_num (k : Int) : runFn T n (d + 1) 9 [.dat (di k)] [] = some (.dat (di k), []) := by
  rw [runFn_succ]
  simp [T, xf_law09_num]
def gsL (s : State) : List (List Ent) := s.log :: (s.ballots.map (·.log) ++ s.answers.map (·.log))
theorem gsL_map (s : State) : gsE1 s s.answers = (gsL s).map rE := by simp [gsE1, gsL, Function.comp_def]
theorem gsL_len (s : State) : (gsL s).length = (gsE1 s s.answers).length := by rw [gsL_map]; simp
theorem Small2.wait {s : State} (hs : Small2 s) (c : Cfg) : Small (waitS c s) := by
  have h := hs.toSmall
  unfold waitS
  split
  · exact ⟨by simp [zeroS], by simp [zeroS], by simp [zeroS], by simp [zeroS], by simp [zeroS], by simp [zeroS], by simp [zeroS], by simp [zeroS]⟩
  · split
    · exact h
    · split
      · exact ⟨h.log, h.vector, h.acks, h.marks, h.ballots, h.answers, h.blogs, h.alogs⟩
      · exact ⟨h.log, h.vector, h.acks, h.marks, h.ballots, h.answers, h.blogs, h.alogs⟩
theorem e_Intact1 (s : State) (hs : Small2 s) (hn : 2097156 < n) : runFn T n (d + 4) 11 [.ptr 0 0] [boxG (.own 1 0 1) (.own 2 0 1) (.own 3 0 (gsE1 s s.answers).length) (.own 4 0 (gsE1 s s.answers).length) (.own 5 0 1) (.own 6 0 1), lD [rD s.vector], lD [rD s.vector], lE (gsE1 s s.answers), lE (gsE1 s s.answers), lS [encS s], lS [encS s]] =
    some (.dat (.bool true), [boxG (.own 1 0 1) (.own 2 0 1) (.own 3 0 (gsE1 s s.answers).length) (.own 4 0 (gsE1 s s.answers).length) (.own 5 0 1) (.own 6 0 1), lD [rD s.vector], lD [rD s.vector], lE (gsE1 s s.answers), lE (gsE1 s s.answers), lS [encS s], lS [encS s]]) := by
  have hb := hs.ballots
  have ha := hs.answers
  have hlen : (gsL s).length ≤ 2097155 := by simp [gsL]; omega
  have h := e_Intact (n := n) (d := d) [s.vector] (gsL s) [s] (by simp) (by simpa using hs.vector2) (by omega) (by omega) (by
    intro l hl
    simp only [gsL, List.mem_cons, List.mem_append, List.mem_map] at hl
    rcases hl with rfl | ⟨b, hb, rfl⟩ | ⟨b, hb, rfl⟩
    · exact hs.log2
    · exact hs.blogs2 b hb
    · exact hs.alogs2 b hb) (by simp) (by simpa using hs.toSmall) (by omega)
  simp only [HI, ← gsL_map, gsL_len, List.map_cons, List.map_nil, List.length_cons, List.length_nil, Nat.zero_add] at h
  exact h
theorem law_CoreWaits (c : Cfg) (s : State) (hs : Small2 s) (hn : 2097156 < n) : ∃ H, runFn T n (d + 9) 3 [.dat (encCfg c), .dat (encS s)] [] = some (.dat (.bool true), H) := by
  have g := e_Given_State (n := n) (d := d + 5) s hs (by omega)
  have w1 := e_core_Wait (n := n) (d := d + 2) c s hs.toSmall (by omega)
  have w2 := e_ref09_Wait (n := n) (d := d) c s hs.toSmall (by omega)
  have hnum := e_num (n := n) (d := d + 7) (stateErr c s)
  have hsame := e_plain_SameState (n := n) (d := d + 5) (waitS c s) (hs.wait c) (by omega)
  have hin := e_Intact1 (n := n) (d := d + 4) s hs hn
  unfold givAV givH at g
  rw [runFn_succ]
  simp [T, xf_law09_CoreWaits, g, w1, w2, hnum, hsame, hin]
end Go.Ax
