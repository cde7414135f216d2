/-
  First, and chapter 9's first two examples, evaluated.
-/
import Derived.Test.YtponcchkfmbicaaGreatDoorMF
import Derived.Test.YtponcchkfmbicaaGreatDoorED
namespace Go.Ax
set_option linter.all false
variable {n d : Nat}
set_option maxRecDepth 10000
set_option linter.unusedSimpArgs false
set_option maxHeartbeats 4000000

theorem e_vector_New (k : Int) (h : 1 ≤ k ∧ k ≤ 7) : runFn T n (d + 1) 93 [.dat (di k)] [] = some (.tup [.own 0 0 k.toNat, .dat (di 0)], [.arr 43 2 true false (List.replicate k.toNat (encD ⟨0, 0⟩))]) := by
  have hL : k ≤ (LIM : Int) := by simp only [LIM]; omega
  have h1 : ¬ k < 1 := by omega
  have h2 : ¬ 7 < k := by omega
  have h3 : 0 ≤ k := by omega
  rw [runFn_succ]
  simp [T, xf_vector_New, h1, h2, h3, hL]
def selfErr (c : Cfg) (i : Int) : Int := if cfgOk c then (if 0 ≤ i ∧ i < NN c then 0 else 3) else 1
theorem e_core_self (c : Cfg) (i : Int) : runFn T n (d + 3) 92 [.dat (encCfg c), .dat (di i)] [] = some (.dat (di (selfErr c i)), []) := by
  have h1 := e_core_CheckConfig (n := n) (d := d + 1) c
  have h2 := e_core_Nodes (n := n) (d := d) c
  rw [runFn_succ]
  unfold selfErr
  by_cases hc : cfgOk c
  · have hN : nodesOf c = NN c := by unfold nodesOf; rw [if_pos hc]
    rw [if_pos hc] at h1 ⊢
    rw [hN] at h2
    by_cases h3 : i < 0
    · have h4 : ¬ (0 ≤ i ∧ i < NN c) := by omega
      rw [if_neg h4]
      simp [T, xf_core_self, h1, h2, h3]
    · by_cases h5 : NN c ≤ i
      · have h4 : ¬ (0 ≤ i ∧ i < NN c) := by omega
        rw [if_neg h4]
        simp [T, xf_core_self, h1, h2, h3, h5]
      · have h4 : (0 ≤ i ∧ i < NN c) := by omega
        rw [if_pos h4]
        simp [T, xf_core_self, h1, h2, h3, h5]
  · rw [if_neg hc] at h1 ⊢
    simp [T, xf_core_self, h1]
def firstS (c : Cfg) (i : Int) : State := if selfErr c i ≠ 0 then zeroS else ⟨i, 1, 0, 0, [], 0, List.replicate (NN c).toNat ⟨0, 0⟩, 0, [], [], [], []⟩
theorem e_core_First (c : Cfg) (i : Int) : runFn T n (d + 4) 32 [.dat (encCfg c), .dat (di i)] [] = some (.tup [.dat (encS (firstS c i)), .dat (di (selfErr c i))], []) := by
  have h1 := e_core_self (n := n) (d := d) c i
  have h2 := e_core_Nodes (n := n) (d := d + 1) c
  rw [runFn_succ]
  unfold firstS
  by_cases he : selfErr c i = 0
  · have hc : cfgOk c := by
      unfold selfErr at he
      split at he
      · assumption
      · simp at he
    have hN : nodesOf c = NN c := by unfold nodesOf; rw [if_pos hc]
    rw [hN] at h2
    have hf : 1 ≤ NN c ∧ NN c ≤ 7 := by unfold cfgOk at hc; simp only [NN]; omega
    have h3 := e_vector_New (n := n) (d := d + 2) (NN c) hf
    rw [he] at h1 ⊢
    simp [T, xf_core_First, h1, h2, h3]
  · simp [T, xf_core_First, h1, he, zeroS]
def c3 : Cfg := ⟨1, 4, 6, false⟩
theorem e_three : runFn T n (d + 1) 61 [] [] = some (.agg [.dat (di 1), .dat (di 4), .dat (di 6), .dat (.bool false)], []) := by
  rw [runFn_succ]
  simp [T, xf_law09_three, c3]
def comM (a b : Int) : Msg := ⟨5, 0, 0, ⟨0, 0, ⟨0, 0, ⟨#[]⟩⟩⟩, ⟨0, 0, ⟨#[]⟩⟩, 0, 0, 0, ⟨0, 0⟩, [], [⟨0, a⟩, ⟨0, b⟩, ⟨0, 0⟩]⟩
theorem e_commit (a b : Int) : runFn T n (d + 1) 62 [.dat (du a), .dat (du b)] [] = some (.agg [.dat (di 5), .dat (di 0), .dat (di 0), .dat (di 0), .dat (di 0), .dat (di 0), .dat (di 0), .dat (.str ⟨#[]⟩), .dat (di 0), .dat (di 0), .dat (.str ⟨#[]⟩), .dat (di 0), .dat (di 0), .dat (di 0), .dat (du 0), .dat (du 0), .nil 38 5 true, .own 0 0 3], [.arr 43 2 true false [encD ⟨0, a⟩, encD ⟨0, b⟩, encD ⟨0, 0⟩]]) := by
  rw [runFn_succ]
  simp [T, xf_law09_commit, comM]
def fS3 : State := ⟨1, 1, 0, 0, [], 0, [⟨0, 0⟩, ⟨0, 0⟩, ⟨0, 0⟩], 0, [], [], [], []⟩
def tS3 : State := ⟨1, 1, 0, 0, [], 0, [⟨0, 4⟩, ⟨0, 0⟩, ⟨0, 0⟩], 0, [], [], [], []⟩
theorem first3 : firstS c3 1 = fS3 ∧ selfErr c3 1 = 0 := by decide
theorem adm3 : admS c3 fS3 (comM 4 0) = tS3 ∧ admB c3 fS3 (comM 4 0) = true ∧ admErr c3 fS3 (comM 4 0) = 0 := by decide +kernel
theorem adm4 : admB c3 tS3 (comM 0 0) = false ∧ admErr c3 tS3 (comM 0 0) = 0 := by decide +kernel
theorem adm5 : admB c3 tS3 (comM 4 3) = false ∧ admErr c3 tS3 (comM 4 3) = 0 := by decide +kernel
theorem small_f3 : Small fS3 := ⟨by simp [fS3], by simp [fS3], by simp [fS3], by simp [fS3], by simp [fS3], by simp [fS3], by simp [fS3], by simp [fS3]⟩
theorem small_t3 : Small tS3 := ⟨by simp [tS3], by simp [tS3], by simp [tS3], by simp [tS3], by simp [tS3], by simp [tS3], by simp [tS3], by simp [tS3]⟩
theorem e_alive (hn : 1999999 < n) : runFn T n (d + 8) 16 [] [] = some (.dat (.bool true), []) := by
  have h1 := e_three (n := n) (d := d + 6)
  have h2 := e_core_First (n := n) (d := d + 3) c3 1
  have h3 := e_commit (n := n) (d := d + 6)
  have a1 := e_core_Admit (n := n) (d := d + 1) c3 fS3 (comM 4 0) small_f3 (by simp [comM]) (by simp [fS3, Nn]) hn
  have a2 := e_core_Admit (n := n) (d := d + 1) c3 tS3 (comM 0 0) small_t3 (by simp [comM]) (by simp [tS3, Nn]) hn
  have a3 := e_core_Admit (n := n) (d := d + 1) c3 tS3 (comM 4 3) small_t3 (by simp [comM]) (by simp [tS3, Nn]) hn
  rw [first3.1, first3.2] at h2
  rw [adm3.1, adm3.2.1, adm3.2.2] at a1
  rw [adm4.1, adm4.2] at a2
  rw [adm5.1, adm5.2] at a3
  have n0 := e_num (n := n) (d := d + 6) 0
  rw [runFn_succ]
  have hw : IntKind.wrap .i64 0 = 0 := by decide
  simp [c3, comM, fS3, tS3, encM, cellsM, encLog, encV, encS, cellsS, encAcks, encMarks, encBals, encAnss, encCfg] at h2 a1 a2 a3
  simp [T, xf_law09_alive, h1, h2, h3, a1, a2, a3, n0, hw]
  done
end Go.Ax
