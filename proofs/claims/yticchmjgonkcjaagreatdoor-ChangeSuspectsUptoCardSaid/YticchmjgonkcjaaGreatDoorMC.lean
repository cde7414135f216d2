/-
  What a message may be, by the document.
-/
import Derived.Test.YticchmjgonkcjaaGreatDoorMB
namespace Go.Ax
set_option linter.all false
variable {n d : Nat}
set_option maxRecDepth 10000
set_option linter.unusedSimpArgs false
set_option maxHeartbeats 4000000
theorem e_fields_1 (c : Cfg) (m : Msg) (hk : m.kind = 1) (hc : cfgOk c) (hl : m.log.length ≤ 1048577) (hn : 1048577 < n) (hu : unusedOk m = true) : runFn T n (d + 4) 106 [.dat (encCfg c), .dat (encM m), .dat (di 1), .dat (encBs (rowL 1))] [] = some (.dat (.bool (numsOk c m && restOk c m)), []) := by
 have h5 := e_ref07_entry (n := n) (d := d) 1 m.entry
 have h6 := e_ref07_result (n := n) (d := d + 2) m.result
 have h8 := e_ref05_Log (n := n) (d := d) m.log c.room hl hn
 rw [logErr_ref m.log c.room (by unfold cfgOk at hc; omega)] at h8
 have w1 := wrap_small (x := 2 * c.f) (by unfold cfgOk at hc; omega)
 have w2 := wrap_small (x := 2 * c.f + 1) (by unfold cfgOk at hc; omega)
 have w3 : ¬ (2 * c.f + 1 = 0) := by unfold cfgOk at hc; omega
 have hc2 : 1 ≤ c.f ∧ c.f ≤ 3 ∧ 1 ≤ c.room ∧ c.room ≤ 256 := by unfold cfgOk at hc; omega
 have hle : logErr m.log c.room = 0 → (m.log.length : Int) ≤ c.room := logErr_len
 unfold restOk drawNot lateLog numsOk numsTail numsBase numsEnd NN readsOk
 unfold unusedOk pairs pairsM pU at hu
 obtain ⟨kd, nd, vw, en, rs, pl, cm, ls, dr, lg, vc⟩ := m
 simp only at hk h5 h6 h8 hu hl hle ⊢
 subst hk
 generalize asksOk 1 en = B3 at *
 generalize answersOk rs = B4 at *
 generalize logErr lg c.room = LE at *
 simp only [ub_1_0, ub_1_1, ub_1_2, ub_1_3, ub_1_4, ub_1_5, ub_1_6, ub_1_7, ub_1_8, ub_1_9] at hu ⊢
 simp at hu
 rw [rowL_1, runFn_succ]
 cases B3
 all_goals skip
 all_goals simp [T, xf_ref07_fields, h5, h6, h8, w1, w2, w3]
 all_goals (try grind)
theorem e_fields_2 (c : Cfg) (m : Msg) (hk : m.kind = 2) (hc : cfgOk c) (hl : m.log.length ≤ 1048577) (hn : 1048577 < n) (hu : unusedOk m = true) : runFn T n (d + 4) 106 [.dat (encCfg c), .dat (encM m), .dat (di 2), .dat (encBs (rowL 2))] [] = some (.dat (.bool (numsOk c m && restOk c m)), []) := by
 have h5 := e_ref07_entry (n := n) (d := d) 2 m.entry
 have h6 := e_ref07_result (n := n) (d := d + 2) m.result
 have h8 := e_ref05_Log (n := n) (d := d) m.log c.room hl hn
 rw [logErr_ref m.log c.room (by unfold cfgOk at hc; omega)] at h8
 have w1 := wrap_small (x := 2 * c.f) (by unfold cfgOk at hc; omega)
 have w2 := wrap_small (x := 2 * c.f + 1) (by unfold cfgOk at hc; omega)
 have w3 : ¬ (2 * c.f + 1 = 0) := by unfold cfgOk at hc; omega
 have hc2 : 1 ≤ c.f ∧ c.f ≤ 3 ∧ 1 ≤ c.room ∧ c.room ≤ 256 := by unfold cfgOk at hc; omega
 have hle : logErr m.log c.room = 0 → (m.log.length : Int) ≤ c.room := logErr_len
 unfold restOk drawNot lateLog numsOk numsTail numsBase numsEnd NN readsOk
 unfold unusedOk pairs pairsM pU at hu
 obtain ⟨kd, nd, vw, en, rs, pl, cm, ls, dr, lg, vc⟩ := m
 simp only at hk h5 h6 h8 hu hl hle ⊢
 subst hk
 generalize asksOk 2 en = B3 at *
 generalize answersOk rs = B4 at *
 generalize logErr lg c.room = LE at *
 simp only [ub_2_0, ub_2_1, ub_2_2, ub_2_3, ub_2_4, ub_2_5, ub_2_6, ub_2_7, ub_2_8, ub_2_9] at hu ⊢
 simp at hu
 rw [rowL_2, runFn_succ]
 cases B3
 all_goals skip
 all_goals cases B4
 all_goals simp [T, xf_ref07_fields, h5, h6, h8, w1, w2, w3]
 all_goals (try grind)
theorem e_fields_3 (c : Cfg) (m : Msg) (hk : m.kind = 3) (hc : cfgOk c) (hl : m.log.length ≤ 1048577) (hn : 1048577 < n) (hu : unusedOk m = true) : runFn T n (d + 4) 106 [.dat (encCfg c), .dat (encM m), .dat (di 3), .dat (encBs (rowL 3))] [] = some (.dat (.bool (numsOk c m && restOk c m)), []) := by
 have h5 := e_ref07_entry (n := n) (d := d) 3 m.entry
 have h6 := e_ref07_result (n := n) (d := d + 2) m.result
 have h8 := e_ref05_Log (n := n) (d := d) m.log c.room hl hn
 rw [logErr_ref m.log c.room (by unfold cfgOk at hc; omega)] at h8
 have w1 := wrap_small (x := 2 * c.f) (by unfold cfgOk at hc; omega)
 have w2 := wrap_small (x := 2 * c.f + 1) (by unfold cfgOk at hc; omega)
 have w3 : ¬ (2 * c.f + 1 = 0) := by unfold cfgOk at hc; omega
 have hc2 : 1 ≤ c.f ∧ c.f ≤ 3 ∧ 1 ≤ c.room ∧ c.room ≤ 256 := by unfold cfgOk at hc; omega
 have hle : logErr m.log c.room = 0 → (m.log.length : Int) ≤ c.room := logErr_len
 unfold restOk drawNot lateLog numsOk numsTail numsBase numsEnd NN readsOk
 unfold unusedOk pairs pairsM pU at hu
 obtain ⟨kd, nd, vw, en, rs, pl, cm, ls, dr, lg, vc⟩ := m
 simp only at hk h5 h6 h8 hu hl hle ⊢
 subst hk
 generalize asksOk 3 en = B3 at *
 generalize answersOk rs = B4 at *
 generalize logErr lg c.room = LE at *
 simp only [ub_3_0, ub_3_1, ub_3_2, ub_3_3, ub_3_4, ub_3_5, ub_3_6, ub_3_7, ub_3_8, ub_3_9] at hu ⊢
 simp at hu
 rw [rowL_3, runFn_succ]
 cases B3
 all_goals skip
 all_goals simp [T, xf_ref07_fields, h5, h6, h8, w1, w2, w3]
 all_goals (try grind)
theorem e_fields_4 (c : Cfg) (m : Msg) (hk : m.kind = 4) (hc : cfgOk c) (hl : m.log.length ≤ 1048577) (hn : 1048577 < n) (hu : unusedOk m = true) : runFn T n (d + 4) 106 [.dat (encCfg c), .dat (encM m), .dat (di 4), .dat (encBs (rowL 4))] [] = some (.dat (.bool (numsOk c m && restOk c m)), []) := by
 have h5 := e_ref07_entry (n := n) (d := d) 4 m.entry
 have h6 := e_ref07_result (n := n) (d := d + 2) m.result
 have h8 := e_ref05_Log (n := n) (d := d) m.log c.room hl hn
 rw [logErr_ref m.log c.room (by unfold cfgOk at hc; omega)] at h8
 have w1 := wrap_small (x := 2 * c.f) (by unfold cfgOk at hc; omega)
 have w2 := wrap_small (x := 2 * c.f + 1) (by unfold cfgOk at hc; omega)
 have w3 : ¬ (2 * c.f + 1 = 0) := by unfold cfgOk at hc; omega
 have hc2 : 1 ≤ c.f ∧ c.f ≤ 3 ∧ 1 ≤ c.room ∧ c.room ≤ 256 := by unfold cfgOk at hc; omega
 have hle : logErr m.log c.room = 0 → (m.log.length : Int) ≤ c.room := logErr_len
 unfold restOk drawNot lateLog numsOk numsTail numsBase numsEnd NN readsOk
 unfold unusedOk pairs pairsM pU at hu
 obtain ⟨kd, nd, vw, en, rs, pl, cm, ls, dr, lg, vc⟩ := m
 simp only at hk h5 h6 h8 hu hl hle ⊢
 subst hk
 generalize asksOk 4 en = B3 at *
 generalize answersOk rs = B4 at *
 generalize logErr lg c.room = LE at *
 simp only [ub_4_0, ub_4_1, ub_4_2, ub_4_3, ub_4_4, ub_4_5, ub_4_6, ub_4_7, ub_4_8, ub_4_9] at hu ⊢
 simp at hu
 rw [rowL_4, runFn_succ]
 all_goals simp [T, xf_ref07_fields, h5, h6, h8, w1, w2, w3]
 all_goals (try grind)
theorem e_fields_5 (c : Cfg) (m : Msg) (hk : m.kind = 5) (hc : cfgOk c) (hl : m.log.length ≤ 1048577) (hn : 1048577 < n) (hu : unusedOk m = true) : runFn T n (d + 4) 106 [.dat (encCfg c), .dat (encM m), .dat (di 5), .dat (encBs (rowL 5))] [] = some (.dat (.bool (numsOk c m && restOk c m)), []) := by
 have h5 := e_ref07_entry (n := n) (d := d) 5 m.entry
 have h6 := e_ref07_result (n := n) (d := d + 2) m.result
 have h8 := e_ref05_Log (n := n) (d := d) m.log c.room hl hn
 rw [logErr_ref m.log c.room (by unfold cfgOk at hc; omega)] at h8
 have w1 := wrap_small (x := 2 * c.f) (by unfold cfgOk at hc; omega)
 have w2 := wrap_small (x := 2 * c.f + 1) (by unfold cfgOk at hc; omega)
 have w3 : ¬ (2 * c.f + 1 = 0) := by unfold cfgOk at hc; omega
 have hc2 : 1 ≤ c.f ∧ c.f ≤ 3 ∧ 1 ≤ c.room ∧ c.room ≤ 256 := by unfold cfgOk at hc; omega
 have hle : logErr m.log c.room = 0 → (m.log.length : Int) ≤ c.room := logErr_len
 unfold restOk drawNot lateLog numsOk numsTail numsBase numsEnd NN readsOk
 unfold unusedOk pairs pairsM pU at hu
 obtain ⟨kd, nd, vw, en, rs, pl, cm, ls, dr, lg, vc⟩ := m
 simp only at hk h5 h6 h8 hu hl hle ⊢
 subst hk
 generalize asksOk 5 en = B3 at *
 generalize answersOk rs = B4 at *
 generalize logErr lg c.room = LE at *
 simp only [ub_5_0, ub_5_1, ub_5_2, ub_5_3, ub_5_4, ub_5_5, ub_5_6, ub_5_7, ub_5_8, ub_5_9] at hu ⊢
 simp at hu
 rw [rowL_5, runFn_succ]
 all_goals simp [T, xf_ref07_fields, h5, h6, h8, w1, w2, w3]
 all_goals (try grind)
end Go.Ax
namespace Go.Ax
set_option linter.all false
variable {n d : Nat}
set_option maxRecDepth 10000
set_option linter.unusedSimpArgs false
set_option maxHeartbeats 4000000
theorem e_fields_6 (c : Cfg) (m : Msg) (hk : m.kind = 6) (hc : cfgOk c) (hl : m.log.length ≤ 1048577) (hn : 1048577 < n) (hu : unusedOk m = true) : runFn T n (d + 4) 106 [.dat (encCfg c), .dat (encM m), .dat (di 6), .dat (encBs (rowL 6))] [] = some (.dat (.bool (numsOk c m && restOk c m)), []) := by
 have h5 := e_ref07_entry (n := n) (d := d) 6 m.entry
 have h6 := e_ref07_result (n := n) (d := d + 2) m.result
 have h8 := e_ref05_Log (n := n) (d := d) m.log c.room hl hn
 rw [logErr_ref m.log c.room (by unfold cfgOk at hc; omega)] at h8
 have w1 := wrap_small (x := 2 * c.f) (by unfold cfgOk at hc; omega)
 have w2 := wrap_small (x := 2 * c.f + 1) (by unfold cfgOk at hc; omega)
 have w3 : ¬ (2 * c.f + 1 = 0) := by unfold cfgOk at hc; omega
 have hc2 : 1 ≤ c.f ∧ c.f ≤ 3 ∧ 1 ≤ c.room ∧ c.room ≤ 256 := by unfold cfgOk at hc; omega
 have hle : logErr m.log c.room = 0 → (m.log.length : Int) ≤ c.room := logErr_len
 unfold restOk drawNot lateLog numsOk numsTail numsBase numsEnd NN readsOk
 unfold unusedOk pairs pairsM pU at hu
 obtain ⟨kd, nd, vw, en, rs, pl, cm, ls, dr, lg, vc⟩ := m
 simp only at hk h5 h6 h8 hu hl hle ⊢
 subst hk
 generalize asksOk 6 en = B3 at *
 generalize answersOk rs = B4 at *
 generalize logErr lg c.room = LE at *
 simp only [ub_6_0, ub_6_1, ub_6_2, ub_6_3, ub_6_4, ub_6_5, ub_6_6, ub_6_7, ub_6_8, ub_6_9] at hu ⊢
 simp at hu
 rw [rowL_6, runFn_succ]
 all_goals simp [T, xf_ref07_fields, h5, h6, h8, w1, w2, w3]
 all_goals (try grind)
theorem e_fields_7 (c : Cfg) (m : Msg) (hk : m.kind = 7) (hc : cfgOk c) (hl : m.log.length ≤ 1048577) (hn : 1048577 < n) (hu : unusedOk m = true) : runFn T n (d + 4) 106 [.dat (encCfg c), .dat (encM m), .dat (di 7), .dat (encBs (rowL 7))] [] = some (.dat (.bool (numsOk c m && restOk c m)), []) := by
 have h5 := e_ref07_entry (n := n) (d := d) 7 m.entry
 have h6 := e_ref07_result (n := n) (d := d + 2) m.result
 have h8 := e_ref05_Log (n := n) (d := d) m.log c.room hl hn
 rw [logErr_ref m.log c.room (by unfold cfgOk at hc; omega)] at h8
 have w1 := wrap_small (x := 2 * c.f) (by unfold cfgOk at hc; omega)
 have w2 := wrap_small (x := 2 * c.f + 1) (by unfold cfgOk at hc; omega)
 have w3 : ¬ (2 * c.f + 1 = 0) := by unfold cfgOk at hc; omega
 have hc2 : 1 ≤ c.f ∧ c.f ≤ 3 ∧ 1 ≤ c.room ∧ c.room ≤ 256 := by unfold cfgOk at hc; omega
 have hle : logErr m.log c.room = 0 → (m.log.length : Int) ≤ c.room := logErr_len
 unfold restOk drawNot lateLog numsOk numsTail numsBase numsEnd NN readsOk
 unfold unusedOk pairs pairsM pU at hu
 obtain ⟨kd, nd, vw, en, rs, pl, cm, ls, dr, lg, vc⟩ := m
 simp only at hk h5 h6 h8 hu hl hle ⊢
 subst hk
 generalize asksOk 7 en = B3 at *
 generalize answersOk rs = B4 at *
 generalize logErr lg c.room = LE at *
 simp only [ub_7_0, ub_7_1, ub_7_2, ub_7_3, ub_7_4, ub_7_5, ub_7_6, ub_7_7, ub_7_8, ub_7_9] at hu ⊢
 simp at hu
 rw [rowL_7, runFn_succ]
 by_cases g1 : nd < 0
 ·have g1' := eq_true g1
  simp [T, xf_ref07_fields, h5, h6, h8, w1, w2, w3, g1']
  all_goals (try grind)
 by_cases g2 : 2 * c.f + 1 ≤ nd
 ·have g2' := eq_true g2
  simp [T, xf_ref07_fields, h5, h6, h8, w1, w2, w3, g1, g2']
  all_goals (try grind)
 have ge : 0 ≤ nd := by omega
 have lt : nd < 2 * c.f + 1 := by omega
 by_cases g3 : vw < 0
 ·have g3' := eq_true g3
  simp [T, xf_ref07_fields, h5, h6, h8, w1, w2, w3, g1, g2, ge, lt, g3']
  all_goals (try grind)
 by_cases g4 : 4294967296 < vw
 ·have g4' := eq_true g4
  simp [T, xf_ref07_fields, h5, h6, h8, w1, w2, w3, g1, g2, ge, lt, g3, g4']
  all_goals (try grind)
 by_cases g5 : vw < 1
 ·have g5' := eq_true g5
  simp [T, xf_ref07_fields, h5, h6, h8, w1, w2, w3, g1, g2, ge, lt, g3, g4, g5']
  all_goals (try grind)
 by_cases g7 : ls < 0
 ·have g7' := eq_true g7
  simp [T, xf_ref07_fields, h5, h6, h8, w1, w2, w3, g1, g2, ge, lt, g3, g4, g5, g7']
  all_goals (try grind)
 by_cases g8 : vw ≤ ls
 ·have g8' := eq_true g8
  simp [T, xf_ref07_fields, h5, h6, h8, w1, w2, w3, g1, g2, ge, lt, g3, g4, g5, g7, g8']
  all_goals (try grind)
 by_cases gl : LE = 0
 case neg =>
  simp [T, xf_ref07_fields, h5, h6, h8, w1, w2, w3, g1, g2, ge, lt, g3, g4, g5, g7, g8, gl]
  all_goals (try grind)
 have gl' := eq_true gl
 by_cases g9 : cm < 0
 ·have g9' := eq_true g9
  simp [T, xf_ref07_fields, h5, h6, h8, w1, w2, w3, g1, g2, ge, lt, g3, g4, g5, g7, g8, gl', g9']
  all_goals (try grind)
 by_cases g10 : c.room < cm
 ·have g10' := eq_true g10
  simp [T, xf_ref07_fields, h5, h6, h8, w1, w2, w3, g1, g2, ge, lt, g3, g4, g5, g7, g8, gl', g9, g10']
  all_goals (try grind)
 by_cases g11 : (lg.length : Int) < cm
 ·have g11' := eq_true g11
  simp [T, xf_ref07_fields, h5, h6, h8, w1, w2, w3, g1, g2, ge, lt, g3, g4, g5, g7, g8, gl', g9, g10, g11']
  all_goals (try grind)
 have ge2 : 0 ≤ cm := by omega
 have lt2 : cm ≤ c.room := by omega
 simp [T, xf_ref07_fields, h5, h6, h8, w1, w2, w3, g1, g2, ge, lt, g3, g4, g5, g7, g8, gl', g9, g10, g11, ge2, lt2]
 all_goals (try grind)
theorem e_fields_8 (c : Cfg) (m : Msg) (hk : m.kind = 8) (hc : cfgOk c) (hl : m.log.length ≤ 1048577) (hn : 1048577 < n) (hu : unusedOk m = true) : runFn T n (d + 4) 106 [.dat (encCfg c), .dat (encM m), .dat (di 8), .dat (encBs (rowL 8))] [] = some (.dat (.bool (numsOk c m && restOk c m)), []) := by
 have h5 := e_ref07_entry (n := n) (d := d) 8 m.entry
 have h6 := e_ref07_result (n := n) (d := d + 2) m.result
 have h8 := e_ref05_Log (n := n) (d := d) m.log c.room hl hn
 rw [logErr_ref m.log c.room (by unfold cfgOk at hc; omega)] at h8
 have w1 := wrap_small (x := 2 * c.f) (by unfold cfgOk at hc; omega)
 have w2 := wrap_small (x := 2 * c.f + 1) (by unfold cfgOk at hc; omega)
 have w3 : ¬ (2 * c.f + 1 = 0) := by unfold cfgOk at hc; omega
 have hc2 : 1 ≤ c.f ∧ c.f ≤ 3 ∧ 1 ≤ c.room ∧ c.room ≤ 256 := by unfold cfgOk at hc; omega
 have hle : logErr m.log c.room = 0 → (m.log.length : Int) ≤ c.room := logErr_len
 unfold restOk drawNot lateLog numsOk numsTail numsBase numsEnd NN readsOk
 unfold unusedOk pairs pairsM pU at hu
 obtain ⟨kd, nd, vw, en, rs, pl, cm, ls, dr, lg, vc⟩ := m
 simp only at hk h5 h6 h8 hu hl hle ⊢
 subst hk
 generalize asksOk 8 en = B3 at *
 generalize answersOk rs = B4 at *
 generalize logErr lg c.room = LE at *
 simp only [ub_8_0, ub_8_1, ub_8_2, ub_8_3, ub_8_4, ub_8_5, ub_8_6, ub_8_7, ub_8_8, ub_8_9] at hu ⊢
 simp at hu
 rw [rowL_8, runFn_succ]
 by_cases g1 : nd < 0
 ·have g1' := eq_true g1
  simp [T, xf_ref07_fields, h5, h6, h8, w1, w2, w3, g1']
  all_goals (try grind)
 by_cases g2 : 2 * c.f + 1 ≤ nd
 ·have g2' := eq_true g2
  simp [T, xf_ref07_fields, h5, h6, h8, w1, w2, w3, g1, g2']
  all_goals (try grind)
 have ge : 0 ≤ nd := by omega
 have lt : nd < 2 * c.f + 1 := by omega
 by_cases g3 : vw < 0
 ·have g3' := eq_true g3
  simp [T, xf_ref07_fields, h5, h6, h8, w1, w2, w3, g1, g2, ge, lt, g3']
  all_goals (try grind)
 by_cases g4 : 4294967296 < vw
 ·have g4' := eq_true g4
  simp [T, xf_ref07_fields, h5, h6, h8, w1, w2, w3, g1, g2, ge, lt, g3, g4']
  all_goals (try grind)
 by_cases g5 : vw < 1
 ·have g5' := eq_true g5
  simp [T, xf_ref07_fields, h5, h6, h8, w1, w2, w3, g1, g2, ge, lt, g3, g4, g5']
  all_goals (try grind)
 by_cases g6 : nd = vw.tmod (2 * c.f + 1)
 case neg =>
  simp [T, xf_ref07_fields, h5, h6, h8, w1, w2, w3, g1, g2, ge, lt, g3, g4, g5, g6]
  all_goals (try grind)
 have g6' := eq_true g6
 by_cases gl : LE = 0
 case neg =>
  simp [T, xf_ref07_fields, h5, h6, h8, w1, w2, w3, g1, g2, ge, lt, g3, g4, g5, g6', gl]
  all_goals (try grind)
 have gl' := eq_true gl
 by_cases g9 : cm < 0
 ·have g9' := eq_true g9
  simp [T, xf_ref07_fields, h5, h6, h8, w1, w2, w3, g1, g2, ge, lt, g3, g4, g5, g6', gl', g9']
  all_goals (try grind)
 by_cases g10 : c.room < cm
 ·have g10' := eq_true g10
  simp [T, xf_ref07_fields, h5, h6, h8, w1, w2, w3, g1, g2, ge, lt, g3, g4, g5, g6', gl', g9, g10']
  all_goals (try grind)
 by_cases g11 : (lg.length : Int) < cm
 ·have g11' := eq_true g11
  simp [T, xf_ref07_fields, h5, h6, h8, w1, w2, w3, g1, g2, ge, lt, g3, g4, g5, g6', gl', g9, g10, g11']
  all_goals (try grind)
 have ge2 : 0 ≤ cm := by omega
 have lt2 : cm ≤ c.room := by omega
 simp [T, xf_ref07_fields, h5, h6, h8, w1, w2, w3, g1, g2, ge, lt, g3, g4, g5, g6', gl', g9, g10, g11, ge2, lt2]
 all_goals (try grind)
end Go.Ax
