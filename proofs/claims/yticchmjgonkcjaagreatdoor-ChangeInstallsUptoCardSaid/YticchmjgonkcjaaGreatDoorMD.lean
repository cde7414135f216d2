/-
  What a message may be, by the document.
-/
import Derived.Test.YticchmjgonkcjaaGreatDoorMB
namespace Go.Ax
set_option linter.all false
variable {n d : Nat}
set_option maxRecDepth 10000
set_option linter.unusedSimpArgs false
set_option maxHeartbeats 4000000
theorem e_fields_9 (c : Cfg) (m : Msg) (hk : m.kind = 9) (hc : cfgOk c) (hl : m.log.length ≤ 1048577) (hn : 1048577 < n) (hu : unusedOk m = true) : runFn T n (d + 4) 106 [.dat (encCfg c), .dat (encM m), .dat (di 9), .dat (encBs (rowL 9))] [] = some (.dat (.bool (numsOk c m && restOk c m)), []) := by
 have h5 := e_ref07_entry (n := n) (d := d) 9 m.entry
 have h6 := e_ref07_result (n := n) (d := d + 2) m.result
 have h8 := e_ref05_Log (n := n) (d := d) m.log c.room hl hn
 rw [logErr_ref m.log c.room (by unfold cfgOk at hc; omega)] at h8
 have w1 := wrap_small (x := 2 * c.f) (by unfold cfgOk at hc; omega)
 have w2 := wrap_small (x := 2 * c.f + 1) (by unfold cfgOk at hc; omega)
 have w3 : ¬ (2 * c.f + 1 = 0) := by unfold cfgOk at hc; omega
 have hc2 : 1 ≤ c.f ∧ c.f ≤ 3 ∧ 1 ≤ c.room ∧ c.room ≤ 256 := by unfold cfgOk at hc; omega
 have hle : logErr m.log c.room = 0 → (m.log.length : Int) ≤ c.room := logErr_len
 unfold restOk drawNot lateLog numsOk numsTail numsBase numsEnd NN readsOk
 unfold unusedOk pairs pairsM pU at hu
 obtain ⟨kd, nd, vw, en, rs, pl, cm, ls, dr, lg, vc⟩ := m
 simp only at hk h5 h6 h8 hu hl hle ⊢
 subst hk
 generalize asksOk 9 en = B3 at *
 generalize answersOk rs = B4 at *
 generalize logErr lg c.room = LE at *
 simp only [ub_9_0, ub_9_1, ub_9_2, ub_9_3, ub_9_4, ub_9_5, ub_9_6, ub_9_7, ub_9_8, ub_9_9] at hu ⊢
 simp at hu
 rw [rowL_9, runFn_succ]
 by_cases g1 : nd < 0
 ·have g1' := eq_true g1
  simp [T, xf_ref07_fields, h5, h6, h8, w1, w2, w3, g1']
  all_goals (try grind)
 by_cases g2 : 2 * c.f + 1 ≤ nd
 ·have g2' := eq_true g2
  simp [T, xf_ref07_fields, h5, h6, h8, w1, w2, w3, g1, g2']
  all_goals (try grind)
 have ge : 0 ≤ nd := by omega
 have lt : nd < 2 * c.f + 1 := by omega
 by_cases gv : (vc.length : Int) = 2 * c.f + 1
 case neg =>
  simp [T, xf_ref07_fields, h5, h6, h8, w1, w2, w3, g1, g2, ge, lt, gv]
  all_goals (try grind)
 have gv' := eq_true gv
 have hlt : nd.toNat < vc.length := by omega
 have hlt2 : nd < vc.length := by omega
 rw [List.getElem?_eq_getElem hlt]
 by_cases gd : dr.hi = 0 ∧ dr.lo = 0
 case pos =>
  have gd1 := eq_true gd.1
  have gd2 := eq_true gd.2
  simp [T, xf_ref07_fields, h5, h6, h8, w1, w2, w3, g1, g2, ge, lt, gv', hlt, hlt2, gd1, gd2]
  all_goals (try grind)
 have gx3 : ¬ vc[nd.toNat] = dr → ¬ (vc[nd.toNat].hi = dr.hi ∧ vc[nd.toNat].lo = dr.lo) := by
  intro gx h
  apply gx
  cases hv : vc[nd.toNat]
  cases dr
  simp [hv] at h
  simp [h]
 by_cases gh : dr.hi = 0
 ·have gh' := eq_true gh
  have gk : ¬ dr.lo = 0 := fun h => gd ⟨gh, h⟩
  by_cases gx : vc[nd.toNat] = dr
  ·simp [T, xf_ref07_fields, h5, h6, h8, w1, w2, w3, g1, g2, ge, lt, gv', hlt, hlt2, gh', gk, gx]
   all_goals (try grind)
  ·have gx2 := gx3 gx
   clear gx3
   by_cases gy : vc[nd.toNat].hi = dr.hi
   ·have gz : ¬ vc[nd.toNat].lo = dr.lo := fun h => gx2 ⟨gy, h⟩
    have gz2 : ¬ dr.lo = vc[nd.toNat].lo := fun h => gz h.symm
    have gy1 := eq_true gy
    have gy2 := eq_true gy.symm
    simp [T, xf_ref07_fields, h5, h6, h8, w1, w2, w3, g1, g2, ge, lt, gv', hlt, hlt2, gh', gk, gx, gy1, gy2, gz, gz2]
    all_goals (try grind)
   ·have gy2 : ¬ dr.hi = vc[nd.toNat].hi := fun h => gy h.symm
    simp [T, xf_ref07_fields, h5, h6, h8, w1, w2, w3, g1, g2, ge, lt, gv', hlt, hlt2, gh', gk, gx, gy, gy2]
    all_goals (try grind)
 ·by_cases gx : vc[nd.toNat] = dr
  ·simp [T, xf_ref07_fields, h5, h6, h8, w1, w2, w3, g1, g2, ge, lt, gv', hlt, hlt2, gh, gx]
   all_goals (try grind)
  ·have gx2 := gx3 gx
   clear gx3
   by_cases gy : vc[nd.toNat].hi = dr.hi
   ·have gz : ¬ vc[nd.toNat].lo = dr.lo := fun h => gx2 ⟨gy, h⟩
    have gz2 : ¬ dr.lo = vc[nd.toNat].lo := fun h => gz h.symm
    have gy1 := eq_true gy
    have gy2 := eq_true gy.symm
    simp [T, xf_ref07_fields, h5, h6, h8, w1, w2, w3, g1, g2, ge, lt, gv', hlt, hlt2, gh, gx, gy1, gy2, gz, gz2]
    all_goals (try grind)
   ·have gy2 : ¬ dr.hi = vc[nd.toNat].hi := fun h => gy h.symm
    simp [T, xf_ref07_fields, h5, h6, h8, w1, w2, w3, g1, g2, ge, lt, gv', hlt, hlt2, gh, gx, gy, gy2]
    all_goals (try grind)
theorem e_fields_10 (c : Cfg) (m : Msg) (hk : m.kind = 10) (hc : cfgOk c) (hl : m.log.length ≤ 1048577) (hn : 1048577 < n) (hu : unusedOk m = true) : runFn T n (d + 4) 106 [.dat (encCfg c), .dat (encM m), .dat (di 10), .dat (encBs (rowL 10))] [] = some (.dat (.bool (numsOk c m && restOk c m)), []) := by
 have h5 := e_ref07_entry (n := n) (d := d) 10 m.entry
 have h6 := e_ref07_result (n := n) (d := d + 2) m.result
 have h8 := e_ref05_Log (n := n) (d := d) m.log c.room hl hn
 rw [logErr_ref m.log c.room (by unfold cfgOk at hc; omega)] at h8
 have w1 := wrap_small (x := 2 * c.f) (by unfold cfgOk at hc; omega)
 have w2 := wrap_small (x := 2 * c.f + 1) (by unfold cfgOk at hc; omega)
 have w3 : ¬ (2 * c.f + 1 = 0) := by unfold cfgOk at hc; omega
 have hc2 : 1 ≤ c.f ∧ c.f ≤ 3 ∧ 1 ≤ c.room ∧ c.room ≤ 256 := by unfold cfgOk at hc; omega
 have hle : logErr m.log c.room = 0 → (m.log.length : Int) ≤ c.room := logErr_len
 unfold restOk drawNot lateLog numsOk numsTail numsBase numsEnd NN readsOk
 unfold unusedOk pairs pairsM pU at hu
 obtain ⟨kd, nd, vw, en, rs, pl, cm, ls, dr, lg, vc⟩ := m
 simp only at hk h5 h6 h8 hu hl hle ⊢
 subst hk
 generalize asksOk 10 en = B3 at *
 generalize answersOk rs = B4 at *
 generalize logErr lg c.room = LE at *
 simp only [ub_10_0, ub_10_1, ub_10_2, ub_10_3, ub_10_4, ub_10_5, ub_10_6, ub_10_7, ub_10_8, ub_10_9] at hu ⊢
 simp at hu
 rw [rowL_10, runFn_succ]
 by_cases g1 : nd < 0
 ·have g1' := eq_true g1
  simp [T, xf_ref07_fields, h5, h6, h8, w1, w2, w3, g1']
  all_goals (try grind)
 by_cases g2 : 2 * c.f + 1 ≤ nd
 ·have g2' := eq_true g2
  simp [T, xf_ref07_fields, h5, h6, h8, w1, w2, w3, g1, g2']
  all_goals (try grind)
 have ge : 0 ≤ nd := by omega
 have lt : nd < 2 * c.f + 1 := by omega
 by_cases g3 : vw < 0
 ·have g3' := eq_true g3
  simp [T, xf_ref07_fields, h5, h6, h8, w1, w2, w3, g1, g2, ge, lt, g3']
  all_goals (try grind)
 by_cases g4 : 4294967296 < vw
 ·have g4' := eq_true g4
  simp [T, xf_ref07_fields, h5, h6, h8, w1, w2, w3, g1, g2, ge, lt, g3, g4']
  all_goals (try grind)
 by_cases gl : LE = 0
 case neg =>
  simp [T, xf_ref07_fields, h5, h6, h8, w1, w2, w3, g1, g2, ge, lt, g3, g4, gl]
  all_goals (try grind)
 have gl' := eq_true gl
 by_cases g9 : cm < 0
 ·have g9' := eq_true g9
  simp [T, xf_ref07_fields, h5, h6, h8, w1, w2, w3, g1, g2, ge, lt, g3, g4, gl', g9']
  all_goals (try grind)
 by_cases g10 : c.room < cm
 ·have g10' := eq_true g10
  simp [T, xf_ref07_fields, h5, h6, h8, w1, w2, w3, g1, g2, ge, lt, g3, g4, gl', g9, g10']
  all_goals (try grind)
 by_cases g11 : (lg.length : Int) < cm
 ·have g11' := eq_true g11
  simp [T, xf_ref07_fields, h5, h6, h8, w1, w2, w3, g1, g2, ge, lt, g3, g4, gl', g9, g10, g11']
  all_goals (try grind)
 have ge2 : 0 ≤ cm := by omega
 have lt2 : cm ≤ c.room := by omega
 have fin : (lg = [] ∨ nd = vw.tmod (2 * c.f + 1)) ∨ ¬ (lg = [] ∨ nd = vw.tmod (2 * c.f + 1)) := Classical.em _
 by_cases gx : lg = []
 ·have gx1 := eq_true gx
  have gx' : ¬ 0 < lg.length := by simp [gx]
  by_cases gv : (vc.length : Int) = 2 * c.f + 1
  case neg =>
   simp [T, xf_ref07_fields, h5, h6, h8, w1, w2, w3, g1, g2, ge, lt, g3, g4, gl', g9, g10, g11, ge2, lt2, gx1, gx', gv]
   all_goals (try grind)
  by_cases gd : dr.hi = 0 ∧ dr.lo = 0
  case pos =>
   have gd1 := eq_true gd.1
   have gd2 := eq_true gd.2
   simp [T, xf_ref07_fields, h5, h6, h8, w1, w2, w3, g1, g2, ge, lt, g3, g4, gl', g9, g10, g11, ge2, lt2, gx1, gx', gv, gd1, gd2]
   all_goals (try grind)
  by_cases gh : dr.hi = 0
  ·have gh' := eq_true gh
   have gk : ¬ dr.lo = 0 := fun h => gd ⟨gh, h⟩
   simp [T, xf_ref07_fields, h5, h6, h8, w1, w2, w3, g1, g2, ge, lt, g3, g4, gl', g9, g10, g11, ge2, lt2, gx1, gx', gv, gh', gk]
   all_goals (try grind)
  ·simp [T, xf_ref07_fields, h5, h6, h8, w1, w2, w3, g1, g2, ge, lt, g3, g4, gl', g9, g10, g11, ge2, lt2, gx1, gx', gv, gh]
   all_goals (try grind)
 ·have gx' : 0 < lg.length := List.length_pos_iff.2 gx
  by_cases gy : nd = vw.tmod (2 * c.f + 1)
  case neg =>
   simp [T, xf_ref07_fields, h5, h6, h8, w1, w2, w3, g1, g2, ge, lt, g3, g4, gl', g9, g10, g11, ge2, lt2, gx, gx', gy]
   all_goals (try grind)
  ·have gy' := eq_true gy
   by_cases gv : (vc.length : Int) = 2 * c.f + 1
   case neg =>
    simp [T, xf_ref07_fields, h5, h6, h8, w1, w2, w3, g1, g2, ge, lt, g3, g4, gl', g9, g10, g11, ge2, lt2, gx, gx', gy', gv]
    all_goals (try grind)
   by_cases gd : dr.hi = 0 ∧ dr.lo = 0
   case pos =>
    have gd1 := eq_true gd.1
    have gd2 := eq_true gd.2
    simp [T, xf_ref07_fields, h5, h6, h8, w1, w2, w3, g1, g2, ge, lt, g3, g4, gl', g9, g10, g11, ge2, lt2, gx, gx', gy', gv, gd1, gd2]
    all_goals (try grind)
   by_cases gh : dr.hi = 0
   ·have gh' := eq_true gh
    have gk : ¬ dr.lo = 0 := fun h => gd ⟨gh, h⟩
    simp [T, xf_ref07_fields, h5, h6, h8, w1, w2, w3, g1, g2, ge, lt, g3, g4, gl', g9, g10, g11, ge2, lt2, gx, gx', gy', gv, gh', gk]
    all_goals (try grind)
   ·simp [T, xf_ref07_fields, h5, h6, h8, w1, w2, w3, g1, g2, ge, lt, g3, g4, gl', g9, g10, g11, ge2, lt2, gx, gx', gy', gv, gh]
    all_goals (try grind)
end Go.Ax
namespace Go.Ax
set_option linter.all false
variable {n d : Nat}
set_option maxRecDepth 10000
set_option linter.unusedSimpArgs false
set_option maxHeartbeats 4000000
theorem e_fields_11 (c : Cfg) (m : Msg) (hk : m.kind = 11) (hc : cfgOk c) (hl : m.log.length ≤ 1048577) (hn : 1048577 < n) (hu : unusedOk m = true) : runFn T n (d + 4) 106 [.dat (encCfg c), .dat (encM m), .dat (di 11), .dat (encBs (rowL 11))] [] = some (.dat (.bool (numsOk c m && restOk c m)), []) := by
 have h5 := e_ref07_entry (n := n) (d := d) 11 m.entry
 have h6 := e_ref07_result (n := n) (d := d + 2) m.result
 have h8 := e_ref05_Log (n := n) (d := d) m.log c.room hl hn
 rw [logErr_ref m.log c.room (by unfold cfgOk at hc; omega)] at h8
 have w1 := wrap_small (x := 2 * c.f) (by unfold cfgOk at hc; omega)
 have w2 := wrap_small (x := 2 * c.f + 1) (by unfold cfgOk at hc; omega)
 have w3 : ¬ (2 * c.f + 1 = 0) := by unfold cfgOk at hc; omega
 have hc2 : 1 ≤ c.f ∧ c.f ≤ 3 ∧ 1 ≤ c.room ∧ c.room ≤ 256 := by unfold cfgOk at hc; omega
 have hle : logErr m.log c.room = 0 → (m.log.length : Int) ≤ c.room := logErr_len
 unfold restOk drawNot lateLog numsOk numsTail numsBase numsEnd NN readsOk
 unfold unusedOk pairs pairsM pU at hu
 obtain ⟨kd, nd, vw, en, rs, pl, cm, ls, dr, lg, vc⟩ := m
 simp only at hk h5 h6 h8 hu hl hle ⊢
 subst hk
 generalize asksOk 11 en = B3 at *
 generalize answersOk rs = B4 at *
 generalize logErr lg c.room = LE at *
 simp only [ub_11_0, ub_11_1, ub_11_2, ub_11_3, ub_11_4, ub_11_5, ub_11_6, ub_11_7, ub_11_8, ub_11_9] at hu ⊢
 simp at hu
 rw [rowL_11, runFn_succ]
 all_goals simp [T, xf_ref07_fields, h5, h6, h8, w1, w2, w3]
 all_goals (try grind)
theorem e_fields_12 (c : Cfg) (m : Msg) (hk : m.kind = 12) (hc : cfgOk c) (hl : m.log.length ≤ 1048577) (hn : 1048577 < n) (hu : unusedOk m = true) : runFn T n (d + 4) 106 [.dat (encCfg c), .dat (encM m), .dat (di 12), .dat (encBs (rowL 12))] [] = some (.dat (.bool (numsOk c m && restOk c m)), []) := by
 have h5 := e_ref07_entry (n := n) (d := d) 12 m.entry
 have h6 := e_ref07_result (n := n) (d := d + 2) m.result
 have h8 := e_ref05_Log (n := n) (d := d) m.log c.room hl hn
 rw [logErr_ref m.log c.room (by unfold cfgOk at hc; omega)] at h8
 have w1 := wrap_small (x := 2 * c.f) (by unfold cfgOk at hc; omega)
 have w2 := wrap_small (x := 2 * c.f + 1) (by unfold cfgOk at hc; omega)
 have w3 : ¬ (2 * c.f + 1 = 0) := by unfold cfgOk at hc; omega
 have hc2 : 1 ≤ c.f ∧ c.f ≤ 3 ∧ 1 ≤ c.room ∧ c.room ≤ 256 := by unfold cfgOk at hc; omega
 have hle : logErr m.log c.room = 0 → (m.log.length : Int) ≤ c.room := logErr_len
 unfold restOk drawNot lateLog numsOk numsTail numsBase numsEnd NN readsOk
 unfold unusedOk pairs pairsM pU at hu
 obtain ⟨kd, nd, vw, en, rs, pl, cm, ls, dr, lg, vc⟩ := m
 simp only at hk h5 h6 h8 hu hl hle ⊢
 subst hk
 generalize asksOk 12 en = B3 at *
 generalize answersOk rs = B4 at *
 generalize logErr lg c.room = LE at *
 simp only [ub_12_0, ub_12_1, ub_12_2, ub_12_3, ub_12_4, ub_12_5, ub_12_6, ub_12_7, ub_12_8, ub_12_9] at hu ⊢
 simp at hu
 rw [rowL_12, runFn_succ]
 by_cases g1 : nd < 0
 ·have g1' := eq_true g1
  simp [T, xf_ref07_fields, h5, h6, h8, w1, w2, w3, g1']
  all_goals (try grind)
 by_cases g2 : 2 * c.f + 1 ≤ nd
 ·have g2' := eq_true g2
  simp [T, xf_ref07_fields, h5, h6, h8, w1, w2, w3, g1, g2']
  all_goals (try grind)
 have ge : 0 ≤ nd := by omega
 have lt : nd < 2 * c.f + 1 := by omega
 by_cases g3 : vw < 0
 ·have g3' := eq_true g3
  simp [T, xf_ref07_fields, h5, h6, h8, w1, w2, w3, g1, g2, ge, lt, g3']
  all_goals (try grind)
 by_cases g4 : 4294967296 < vw
 ·have g4' := eq_true g4
  simp [T, xf_ref07_fields, h5, h6, h8, w1, w2, w3, g1, g2, ge, lt, g3, g4']
  all_goals (try grind)
 by_cases gl : LE = 0
 case neg =>
  simp [T, xf_ref07_fields, h5, h6, h8, w1, w2, w3, g1, g2, ge, lt, g3, g4, gl]
  all_goals (try grind)
 have gl' := eq_true gl
 by_cases g9 : cm < 0
 ·have g9' := eq_true g9
  simp [T, xf_ref07_fields, h5, h6, h8, w1, w2, w3, g1, g2, ge, lt, g3, g4, gl', g9']
  all_goals (try grind)
 by_cases g10 : c.room < cm
 ·have g10' := eq_true g10
  simp [T, xf_ref07_fields, h5, h6, h8, w1, w2, w3, g1, g2, ge, lt, g3, g4, gl', g9, g10']
  all_goals (try grind)
 by_cases g11 : (lg.length : Int) < cm
 ·have g11' := eq_true g11
  simp [T, xf_ref07_fields, h5, h6, h8, w1, w2, w3, g1, g2, ge, lt, g3, g4, gl', g9, g10, g11']
  all_goals (try grind)
 have ge2 : 0 ≤ cm := by omega
 have lt2 : cm ≤ c.room := by omega
 simp [T, xf_ref07_fields, h5, h6, h8, w1, w2, w3, g1, g2, ge, lt, g3, g4, gl', g9, g10, g11, ge2, lt2]
 all_goals (try grind)
theorem e_fields_13 (c : Cfg) (m : Msg) (hk : m.kind = 13) (hc : cfgOk c) (hl : m.log.length ≤ 1048577) (hn : 1048577 < n) (hu : unusedOk m = true) : runFn T n (d + 4) 106 [.dat (encCfg c), .dat (encM m), .dat (di 13), .dat (encBs (rowL 13))] [] = some (.dat (.bool (numsOk c m && restOk c m)), []) := by
 have h5 := e_ref07_entry (n := n) (d := d) 13 m.entry
 have h6 := e_ref07_result (n := n) (d := d + 2) m.result
 have h8 := e_ref05_Log (n := n) (d := d) m.log c.room hl hn
 rw [logErr_ref m.log c.room (by unfold cfgOk at hc; omega)] at h8
 have w1 := wrap_small (x := 2 * c.f) (by unfold cfgOk at hc; omega)
 have w2 := wrap_small (x := 2 * c.f + 1) (by unfold cfgOk at hc; omega)
 have w3 : ¬ (2 * c.f + 1 = 0) := by unfold cfgOk at hc; omega
 have hc2 : 1 ≤ c.f ∧ c.f ≤ 3 ∧ 1 ≤ c.room ∧ c.room ≤ 256 := by unfold cfgOk at hc; omega
 have hle : logErr m.log c.room = 0 → (m.log.length : Int) ≤ c.room := logErr_len
 unfold restOk drawNot lateLog numsOk numsTail numsBase numsEnd NN readsOk
 unfold unusedOk pairs pairsM pU at hu
 obtain ⟨kd, nd, vw, en, rs, pl, cm, ls, dr, lg, vc⟩ := m
 simp only at hk h5 h6 h8 hu hl hle ⊢
 subst hk
 generalize asksOk 13 en = B3 at *
 generalize answersOk rs = B4 at *
 generalize logErr lg c.room = LE at *
 simp only [ub_13_0, ub_13_1, ub_13_2, ub_13_3, ub_13_4, ub_13_5, ub_13_6, ub_13_7, ub_13_8, ub_13_9] at hu ⊢
 simp at hu
 rw [rowL_13, runFn_succ]
 cases B3
 all_goals skip
 all_goals simp [T, xf_ref07_fields, h5, h6, h8, w1, w2, w3]
 all_goals (try grind)
theorem e_fields_14 (c : Cfg) (m : Msg) (hk : m.kind = 14) (hc : cfgOk c) (hl : m.log.length ≤ 1048577) (hn : 1048577 < n) (hu : unusedOk m = true) : runFn T n (d + 4) 106 [.dat (encCfg c), .dat (encM m), .dat (di 14), .dat (encBs (rowL 14))] [] = some (.dat (.bool (numsOk c m && restOk c m)), []) := by
 have h5 := e_ref07_entry (n := n) (d := d) 14 m.entry
 have h6 := e_ref07_result (n := n) (d := d + 2) m.result
 have h8 := e_ref05_Log (n := n) (d := d) m.log c.room hl hn
 rw [logErr_ref m.log c.room (by unfold cfgOk at hc; omega)] at h8
 have w1 := wrap_small (x := 2 * c.f) (by unfold cfgOk at hc; omega)
 have w2 := wrap_small (x := 2 * c.f + 1) (by unfold cfgOk at hc; omega)
 have w3 : ¬ (2 * c.f + 1 = 0) := by unfold cfgOk at hc; omega
 have hc2 : 1 ≤ c.f ∧ c.f ≤ 3 ∧ 1 ≤ c.room ∧ c.room ≤ 256 := by unfold cfgOk at hc; omega
 have hle : logErr m.log c.room = 0 → (m.log.length : Int) ≤ c.room := logErr_len
 unfold restOk drawNot lateLog numsOk numsTail numsBase numsEnd NN readsOk
 unfold unusedOk pairs pairsM pU at hu
 obtain ⟨kd, nd, vw, en, rs, pl, cm, ls, dr, lg, vc⟩ := m
 simp only at hk h5 h6 h8 hu hl hle ⊢
 subst hk
 generalize asksOk 14 en = B3 at *
 generalize answersOk rs = B4 at *
 generalize logErr lg c.room = LE at *
 simp only [ub_14_0, ub_14_1, ub_14_2, ub_14_3, ub_14_4, ub_14_5, ub_14_6, ub_14_7, ub_14_8, ub_14_9] at hu ⊢
 simp at hu
 rw [rowL_14, runFn_succ]
 by_cases g1 : nd < 0
 ·have g1' := eq_true g1
  simp [T, xf_ref07_fields, h5, h6, h8, w1, w2, w3, g1']
  all_goals (try grind)
 by_cases g2 : 2 * c.f + 1 ≤ nd
 ·have g2' := eq_true g2
  simp [T, xf_ref07_fields, h5, h6, h8, w1, w2, w3, g1, g2']
  all_goals (try grind)
 have ge : 0 ≤ nd := by omega
 have lt : nd < 2 * c.f + 1 := by omega
 by_cases g3 : vw < 0
 ·have g3' := eq_true g3
  simp [T, xf_ref07_fields, h5, h6, h8, w1, w2, w3, g1, g2, ge, lt, g3']
  all_goals (try grind)
 by_cases g4 : 4294967296 < vw
 ·have g4' := eq_true g4
  simp [T, xf_ref07_fields, h5, h6, h8, w1, w2, w3, g1, g2, ge, lt, g3, g4']
  all_goals (try grind)
 by_cases g9 : cm < 0
 ·have g9' := eq_true g9
  simp [T, xf_ref07_fields, h5, h6, h8, w1, w2, w3, g1, g2, ge, lt, g3, g4, g9']
  all_goals (try grind)
 by_cases g10 : c.room < cm
 ·have g10' := eq_true g10
  simp [T, xf_ref07_fields, h5, h6, h8, w1, w2, w3, g1, g2, ge, lt, g3, g4, g9, g10']
  all_goals (try grind)
 have ge2 : 0 ≤ cm := by omega
 have lt2 : cm ≤ c.room := by omega
 cases B3
 all_goals cases B4
 all_goals simp [T, xf_ref07_fields, h5, h6, h8, w1, w2, w3, g1, g2, ge, lt, g3, g4, g9, g10, ge2, lt2]
 all_goals (try grind)
end Go.Ax
