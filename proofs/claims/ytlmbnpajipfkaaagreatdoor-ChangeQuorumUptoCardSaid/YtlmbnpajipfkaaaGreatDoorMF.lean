/-
  core.Admit.
-/
import Derived.Test.YtlmbnpajipfkaaaGreatDoorME
namespace Go.Ax
set_option linter.all false
variable {n d : Nat}
set_option maxRecDepth 10000
set_option linter.unusedSimpArgs false
set_option maxHeartbeats 4000000
theorem mxv_len {a b : List Draw} (h : b.length = a.length) : (mxv a b).length = a.length := by simp [mxv, h]
theorem e_core_Admit (c : Cfg) (s : State) (m : Msg) (hs : Small s) (hm : m.log.length ≤ 1048577) (hN : ∀ x ∈ s.vector, Nn x) (hn : 1999999 < n) :
  runFn T n (d + 6) 34 [.dat (encCfg c), .dat (encS s), .dat (encM m)] [] = some (.tup [.dat (encS (admS c s m)), .dat (.bool (admB c s m)), .dat (di (admErr c s m))], []) := by
 have h1 := e_core_Check (n := n) (d := d) c s hs (by omega)
 have h2 := e_message_Check (n := n) (d := d + 2) c m hm (by omega)
 have h3 := e_core_twin (n := n) (d := d + 3) s hs (by omega)
 have h4 := e_message_Between (n := n) (d := d + 4) m.kind
 rw [runFn_succ]
 unfold admS admB
 by_cases he : stateErr c s = 0
 ·have hE : admErr c s m = msgErr c m := by unfold admErr; rw [if_neg (by simp [he])]
  obtain ⟨hnod, hlen, hs1, hs2, hc⟩ := nodes_ok he
  have hf : 1 ≤ c.f ∧ c.f ≤ 3 := by unfold cfgOk at hc; omega
  rw [he] at h1
  rw [hE]
  by_cases hme : msgErr c m = 0
  ·rw [hme] at h2 ⊢
   cases hb : between m.kind
   ·rw [hb] at h4
    simp [T, xf_core_Admit, h1, h2, h3, h4]
   ·rw [hb] at h4
    obtain ⟨hvl, hm1, hm2⟩ := msg_ok hme hb
    by_cases q1 : m.node = s.self
    ·have q1' := eq_true q1
     simp [T, xf_core_Admit, h1, h2, h3, h4, q1']
    ·have q1' := eq_false q1
     by_cases q2 : c.unguarded = true
     ·have q2' := eq_true q2
      simp [T, xf_core_Admit, h1, h2, h3, h4, q1', q2']
     ·have q2' := eq_false q2
      have hvs : m.vector.length = s.vector.length := by omega
      have h17 : 1 ≤ m.vector.length ∧ m.vector.length ≤ 7 := by simp only [NN] at hvl; omega
      have h17s : 1 ≤ s.vector.length ∧ s.vector.length ≤ 7 := by omega
      have h5 := e_Over (n := n) (d := d + 2) s.vector m.vector m.node h17 hvs.symm (by omega)
      rw [show decide (0 < cmp (s.vector.getD m.node.toNat ⟨0, 0⟩) (m.vector.getD m.node.toNat ⟨0, 0⟩)) = overB s m from rfl] at h5
      cases q3 : overB s m
      ·rw [q3] at h5
       have k1 : s.self.toNat < m.vector.length := by omega
       have k2 : s.self.toNat < s.vector.length := by omega
       have k3 : s.self < m.vector.length := by omega
       have k4 : s.self < s.vector.length := by omega
       have h6 := p43 (n := n) (d := d + 4) m.vector[s.self.toNat] s.vector[s.self.toNat]
       have g1 : m.vector.getD s.self.toNat ⟨0, 0⟩ = m.vector[s.self.toNat] := by simp [List.getD, k1]
       have g2 : s.vector.getD s.self.toNat ⟨0, 0⟩ = s.vector[s.self.toNat] := by simp [List.getD, k2]
       by_cases q4 : 0 < cmp m.vector[s.self.toNat] s.vector[s.self.toNat]
       ·have hA : aheadB s m = true := by unfold aheadB; rw [g1, g2]; exact decide_eq_true q4
        simp [T, xf_core_Admit, h1, h2, h3, h4, h5, h6, q1', q2', k1, k2, k3, k4, hs1, q4, hA]
       ·have hA : aheadB s m = false := by unfold aheadB; rw [g1, g2]; exact decide_eq_false q4
        have h7 := p20 (n := n) (d := d + 3) [s.vector, m.vector] (by simp) (by omega)
        obtain ⟨r1, r2⟩ := mergeR_two s.vector m.vector h17s hvs hN
        rw [r1, r2] at h7
        simp only [encL, List.map_cons, List.map_nil] at h7
        have hml := mxv_len hvs
        have h8 := e_PruneAcks (n := n) (d := d + 2) (mxv s.vector m.vector) s.acks hs.acks (by rw [hml]; exact hnod.acks) (by omega)
        have h9 := e_PruneMarks (n := n) (d := d + 2) (mxv s.vector m.vector) s.marks hs.marks (by rw [hml]; exact hnod.marks) (by omega)
        have h10 := e_PruneBallots (n := n) (d := d + 2) (mxv s.vector m.vector) s.ballots (by have := hs.ballots; omega) hs.blogs (by rw [hml]; exact hnod.ballots) (by omega)
        have h11 := e_PruneAnswers (n := n) (d := d + 2) (mxv s.vector m.vector) s.answers (by have := hs.answers; omega) hs.alogs (by rw [hml]; exact hnod.answers) (by omega)
        simp [T, xf_core_Admit, h1, h2, h3, h4, h5, h6, h7, h8, h9, h10, h11, q1', q2', k1, k2, k3, k4, hs1, q4, hA, struck]
      ·rw [q3] at h5
       simp [T, xf_core_Admit, h1, h2, h3, h4, h5, q1', q2']
  ·simp [T, xf_core_Admit, h1, h2, hme, zeroS]
 ·have hE : admErr c s m = stateErr c s := by unfold admErr; rw [if_pos he]
  rw [hE]
  simp [T, xf_core_Admit, h1, he, zeroS]
end Go.Ax
namespace Go.Ax
set_option linter.all false
variable {n d : Nat}
set_option maxRecDepth 10000
set_option linter.unusedSimpArgs false
set_option maxHeartbeats 8000000
end Go.Ax
namespace Go.Ax
set_option linter.all false
variable {n d : Nat}
set_option maxRecDepth 10000
set_option linter.unusedSimpArgs false
set_option maxHeartbeats 8000000
end Go.Ax
namespace Go.Ax
set_option linter.all false
variable {n d : Nat}
set_option maxRecDepth 10000
set_option linter.unusedSimpArgs false
set_option maxHeartbeats 8000000
end Go.Ax
