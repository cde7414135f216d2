/-
  A tick: the program's.
-/
import Derived.Test.YtponcchkfmbicaaGreatDoorEC
namespace Go.Ax
set_option linter.all false
variable {n d : Nat}
set_option maxRecDepth 10000
set_option linter.unusedSimpArgs false
set_option maxHeartbeats 4000000

def still (c : Cfg) (s : State) : Bool := decide (s.status = 3) || decide (s.status = 1) && leads c s
def waitS (c : Cfg) (s : State) : State := if stateErr c s ≠ 0 then zeroS else if still c s then s else if s.idle + 1 < c.patience then { s with idle := s.idle + 1 } else { s with idle := 0 }
def waitB (c : Cfg) (s : State) : Bool := if stateErr c s ≠ 0 then false else if still c s then false else if s.idle + 1 < c.patience then false else true
theorem e_core_Wait (c : Cfg) (s : State) (hs : Small s) (hn : 1048577 < n) : runFn T n (d + 6) 19 [.dat (encCfg c), .dat (encS s)] [] = some (.tup [.dat (encS (waitS c s)), .dat (.bool (waitB c s)), .dat (di (stateErr c s))], []) := by
  have h1 := e_core_Check (n := n) (d := d) c s hs hn
  have h2 := e_core_twin (n := n) (d := d + 3) s hs hn
  rw [runFn_succ]
  unfold waitS waitB
  by_cases he : stateErr c s = 0
  · obtain ⟨hc, hh, _⟩ := ok_of_err he
    have h3 := e_core_leads (n := n) (d := d + 4) c s hc
    rw [he] at h1 ⊢
    simp only [ne_eq, not_true_eq_false, if_false]
    have hi : 0 ≤ s.idle ∧ s.idle < c.patience := by simp [headOff] at hh; omega
    have hp : c.patience ≤ 100 := by unfold cfgOk at hc; omega
    have hw := wrap_small (x := s.idle + 1) (by omega)
    unfold still
    by_cases s3 : s.status = 3
    · have s3' := eq_true s3
      simp [T, xf_core_Wait, h1, h2, s3']
    · have s3' := eq_false s3
      by_cases s1 : s.status = 1
      · have s1' := eq_true s1
        cases hl : leads c s
        · rw [hl] at h3
          by_cases hq : s.idle + 1 < c.patience
          · simp [T, xf_core_Wait, h1, h2, h3, s3', s1', hw, hq]
          · simp [T, xf_core_Wait, h1, h2, h3, s3', s1', hw, hq]
        · rw [hl] at h3
          simp [T, xf_core_Wait, h1, h2, h3, s3', s1']
      · have s1' := eq_false s1
        by_cases hq : s.idle + 1 < c.patience
        · simp [T, xf_core_Wait, h1, h2, h3, s3', s1', hw, hq]
        · simp [T, xf_core_Wait, h1, h2, h3, s3', s1', hw, hq]
  · simp [T, xf_core_Wait, h1, he, zeroS]

end Go.Ax
