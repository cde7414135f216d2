/-
  CoreAdmits, evaluated.
-/
import Derived.Test.YtponcchkfmbicaaGreatDoorMF
import Derived.Test.YtponcchkfmbicaaGreatDoorED
namespace Go.Ax
set_option linter.all false
variable {n d : Nat}
set_option maxRecDepth 10000
set_option linter.unusedSimpArgs false
set_option maxHeartbeats 8000000

theorem Small2.admit {s : State} (hs : Small2 s) (c : Cfg) (m : Msg) : Small (admS c s m) := by
  have h := hs.toSmall
  unfold admS
  split
  · exact ⟨by simp [zeroS], by simp [zeroS], by simp [zeroS], by simp [zeroS], by simp [zeroS], by simp [zeroS], by simp [zeroS], by simp [zeroS]⟩
  · split
    · exact h
    · split
      · exact h
      · split
        · exact h
        · split
          · exact h
          · split
            · exact h
            · refine ⟨h.log, ?_, Nat.le_trans (List.length_filter_le _ _) h.acks, Nat.le_trans (List.length_filter_le _ _) h.marks, Nat.le_trans (List.length_filter_le _ _) h.ballots, Nat.le_trans (List.length_filter_le _ _) h.answers, fun x hx => h.blogs x (List.mem_filter.1 hx).1, fun x hx => h.alogs x (List.mem_filter.1 hx).1⟩
              have := h.vector
              simp only [struck, mxv, List.length_zipWith]
              omega
theorem law_CoreAdmits (c : Cfg) (s : State) (m : Msg) (hs : Small2 s) (hm : SmallM m) (hN : ∀ x ∈ s.vector, Nn x) (hn : 2097157 < n) : ∃ H, runFn T n (d + 9) 3 [.dat (encCfg c), .dat (encS s), .dat (encM m)] [] = some (.dat (.bool true), H) := by
  have g := e_Given_State (n := n) (d := d + 5) s hs (by omega)
  have hgl : (gsE1 s s.answers).length ≤ 4000000 ∧ 0 < (gsE1 s s.answers).length := by
    have hb := hs.ballots
    have ha := hs.answers
    constructor
    · simp [gsE1]; omega
    · simp [gsE1]
  have g2 := e_Given_Msg (n := n) (d := d + 5) m hm [rD s.vector] (gsE1 s s.answers) [encS s] (by simp) (by simp) hgl.1 hgl.2 (by simp)
  have o1 := e_core_Admit (n := n) (d := d + 2) c s m hs.toSmall (by have := hm.log; omega) hN (by omega)
  have o2 := e_ref09_Admit (n := n) (d := d) c s m hs.toSmall (by have := hm.log; omega) (by omega)
  have n1 := e_num (n := n) (d := d + 7) (admErr c s m)
  have s1 := e_plain_SameState (n := n) (d := d + 5) (admS c s m) (hs.admit c m) (by omega)
  have hin := e_Intact2 (n := n) (d := d + 4) s m hs hm hn
  unfold givAV givH at g
  simp only [List.length_cons, List.length_nil, Nat.zero_add] at g2
  generalize admS c s m = X at o1 o2 s1
  generalize admB c s m = B at o1 o2
  rw [runFn_succ]
  simp [T, xf_law09_CoreAdmits, g, g2, o1, o2, n1, s1, hin]
end Go.Ax
