/-
  What a message may be.
-/
import Derived.Test.YtlmbnpajipfkaaaGreatDoorMA
namespace Go.Ax
set_option linter.all false
variable {n d : Nat}
set_option maxRecDepth 10000
set_option linter.unusedSimpArgs false
set_option maxHeartbeats 4000000
def drawNot (m : Msg) : Bool := decide (m.kind = 9) && !decide (m.vector[m.node.toNat]? = some m.draw)
def lateLog (c : Cfg) (m : Msg) : Bool := decide (m.kind = 10) && (!decide (m.log = []) && !decide (m.node = m.view.tmod (NN c)))
def restOk (c : Cfg) (m : Msg) : Bool := (!ub m.kind 6 || asksOk m.kind m.entry) && ((!ub m.kind 7 || (answersOk m.result && readsOk m)) && ((!ub m.kind 9 || decide ((m.vector.length : Int) = NN c)) && ((!ub m.kind 5 || !(decide (m.draw.hi = 0) && decide (m.draw.lo = 0))) && ((!ub m.kind 8 || decide (logErr m.log c.room = 0)) && (!drawNot m && !lateLog c m)))))
def msgOk (c : Cfg) (m : Msg) : Bool := unusedOk m && (numsOk c m && restOk c m)
def msgErr (c : Cfg) (m : Msg) : Int := if cfgOk c then (if 1 ≤ m.kind ∧ m.kind ≤ 14 then (if msgOk c m then 0 else 71) else 70) else 1
theorem msgErr_bad {c : Cfg} {m : Msg} (hc : cfgOk c) (hk : 1 ≤ m.kind ∧ m.kind ≤ 14) (h : msgOk c m = false) : msgErr c m = 71 := by
 unfold msgErr; rw [if_pos hc, if_pos hk, h]; rfl
theorem msgErr_good {c : Cfg} {m : Msg} (hc : cfgOk c) (hk : 1 ≤ m.kind ∧ m.kind ≤ 14) (h : msgOk c m = true) : msgErr c m = 0 := by
 unfold msgErr; rw [if_pos hc, if_pos hk, h]; rfl
theorem nums_node {c : Cfg} {m : Msg} (h : numsOk c m = true) : 0 ≤ m.node ∧ m.node < NN c := by
 simp [numsOk, numsBase] at h
 omega
theorem e_mCheck_1 (c : Cfg) (m : Msg) (hk : m.kind = 1) (hc : cfgOk c) (hl : m.log.length ≤ 1048577) (hn : 1048577 < n) : runFn T n (d + 3) 33 [.dat (encCfg c), .dat (encM m)] [] = some (.dat (di (msgErr c m)), []) := by
 have h1 := e_message_config (n := n) (d := d + 1) c
 rw [decide_eq_true hc] at h1
 have h2 := e_message_is (n := n) (d := d + 1) 1
 have h3 := e_message_unused (n := n) (d := d + 1) m (by omega) hn
 have h4 := e_numbers_1 (n := n) (d := d + 1) c m hk hc
 have h5 := e_message_asks (n := n) (d := d) 1 m.entry
 have h6 := e_message_answers (n := n) (d := d + 1) m.result
 have h7 := e_message_reads (n := n) (d := d + 1) m
 have h8 := e_oplog_Check (n := n) (d := d + 1) m.log c.room hl
 have w1 := wrap_small (x := 2 * c.f) (by unfold cfgOk at hc; omega)
 have w2 := wrap_small (x := 2 * c.f + 1) (by unfold cfgOk at hc; omega)
 have w3 : ¬ (2 * c.f + 1 = 0) := by unfold cfgOk at hc; omega
 have hkk : 1 ≤ m.kind ∧ m.kind ≤ 14 := by omega
 have bad := msgErr_bad hc hkk
 have good := msgErr_good hc hkk
 have node := nums_node (c := c) (m := m)
 have hd : msgOk c m = (unusedOk m && (numsOk c m && restOk c m)) := rfl
 have hr : restOk c m = ((!ub m.kind 6 || asksOk m.kind m.entry) && ((!ub m.kind 7 || (answersOk m.result && readsOk m)) && ((!ub m.kind 9 || decide ((m.vector.length : Int) = NN c)) && ((!ub m.kind 5 || !(decide (m.draw.hi = 0) && decide (m.draw.lo = 0))) && ((!ub m.kind 8 || decide (logErr m.log c.room = 0)) && (!drawNot m && !lateLog c m)))))) := rfl
 unfold drawNot lateLog NN at hr
 generalize msgErr c m = E at *
 generalize unusedOk m = B1 at *
 generalize numsOk c m = B2 at *
 generalize answersOk m.result = B4 at *
 generalize readsOk m = B5 at *
 obtain ⟨kd, nd, vw, en, rs, pl, cm, ls, dr, lg, vc⟩ := m
 simp only at hk h3 h4 h5 h6 h7 h8 node hr hl
 subst hk
 generalize asksOk 1 en = B3 at *
 generalize logErr lg c.room = LE at *
 simp only [ub_1_5, ub_1_6, ub_1_7, ub_1_8, ub_1_9] at hr
 simp at hr
 rw [runFn_succ]
 cases B1
 ·have hE : E = 71 := bad (by simp [hd])
  rw [hE]
  simp [T, xf_message_Check, h1, h2, h3, h4, h5, h6, h7, h8, w1, w2, w3, rowV_1, usesD_len]
 cases B2
 ·have hE : E = 71 := bad (by simp [hd])
  rw [hE]
  simp [T, xf_message_Check, h1, h2, h3, h4, h5, h6, h7, h8, w1, w2, w3, rowV_1, usesD_len]
 cases B3
 ·have hE : E = 71 := bad (by simp [hd, hr])
  rw [hE]
  simp [T, xf_message_Check, h1, h2, h3, h4, h5, h6, h7, h8, w1, w2, w3, rowV_1, usesD_len]
 have hE : E = 0 := good (by simp [hd, hr])
 rw [hE]
 simp [T, xf_message_Check, h1, h2, h3, h4, h5, h6, h7, h8, w1, w2, w3, rowV_1, usesD_len]
theorem e_mCheck_2 (c : Cfg) (m : Msg) (hk : m.kind = 2) (hc : cfgOk c) (hl : m.log.length ≤ 1048577) (hn : 1048577 < n) : runFn T n (d + 3) 33 [.dat (encCfg c), .dat (encM m)] [] = some (.dat (di (msgErr c m)), []) := by
 have h1 := e_message_config (n := n) (d := d + 1) c
 rw [decide_eq_true hc] at h1
 have h2 := e_message_is (n := n) (d := d + 1) 2
 have h3 := e_message_unused (n := n) (d := d + 1) m (by omega) hn
 have h4 := e_numbers_2 (n := n) (d := d + 1) c m hk hc
 have h5 := e_message_asks (n := n) (d := d) 2 m.entry
 have h6 := e_message_answers (n := n) (d := d + 1) m.result
 have h7 := e_message_reads (n := n) (d := d + 1) m
 have h8 := e_oplog_Check (n := n) (d := d + 1) m.log c.room hl
 have w1 := wrap_small (x := 2 * c.f) (by unfold cfgOk at hc; omega)
 have w2 := wrap_small (x := 2 * c.f + 1) (by unfold cfgOk at hc; omega)
 have w3 : ¬ (2 * c.f + 1 = 0) := by unfold cfgOk at hc; omega
 have hkk : 1 ≤ m.kind ∧ m.kind ≤ 14 := by omega
 have bad := msgErr_bad hc hkk
 have good := msgErr_good hc hkk
 have node := nums_node (c := c) (m := m)
 have hd : msgOk c m = (unusedOk m && (numsOk c m && restOk c m)) := rfl
 have hr : restOk c m = ((!ub m.kind 6 || asksOk m.kind m.entry) && ((!ub m.kind 7 || (answersOk m.result && readsOk m)) && ((!ub m.kind 9 || decide ((m.vector.length : Int) = NN c)) && ((!ub m.kind 5 || !(decide (m.draw.hi = 0) && decide (m.draw.lo = 0))) && ((!ub m.kind 8 || decide (logErr m.log c.room = 0)) && (!drawNot m && !lateLog c m)))))) := rfl
 unfold drawNot lateLog NN at hr
 generalize msgErr c m = E at *
 generalize unusedOk m = B1 at *
 generalize numsOk c m = B2 at *
 generalize answersOk m.result = B4 at *
 generalize readsOk m = B5 at *
 obtain ⟨kd, nd, vw, en, rs, pl, cm, ls, dr, lg, vc⟩ := m
 simp only at hk h3 h4 h5 h6 h7 h8 node hr hl
 subst hk
 generalize asksOk 2 en = B3 at *
 generalize logErr lg c.room = LE at *
 simp only [ub_2_5, ub_2_6, ub_2_7, ub_2_8, ub_2_9] at hr
 simp at hr
 rw [runFn_succ]
 cases B1
 ·have hE : E = 71 := bad (by simp [hd])
  rw [hE]
  simp [T, xf_message_Check, h1, h2, h3, h4, h5, h6, h7, h8, w1, w2, w3, rowV_2, usesD_len]
 cases B2
 ·have hE : E = 71 := bad (by simp [hd])
  rw [hE]
  simp [T, xf_message_Check, h1, h2, h3, h4, h5, h6, h7, h8, w1, w2, w3, rowV_2, usesD_len]
 cases B3
 ·have hE : E = 71 := bad (by simp [hd, hr])
  rw [hE]
  simp [T, xf_message_Check, h1, h2, h3, h4, h5, h6, h7, h8, w1, w2, w3, rowV_2, usesD_len]
 cases B4
 ·have hE : E = 71 := bad (by simp [hd, hr])
  rw [hE]
  simp [T, xf_message_Check, h1, h2, h3, h4, h5, h6, h7, h8, w1, w2, w3, rowV_2, usesD_len]
 cases B5
 ·have hE : E = 71 := bad (by simp [hd, hr])
  rw [hE]
  simp [T, xf_message_Check, h1, h2, h3, h4, h5, h6, h7, h8, w1, w2, w3, rowV_2, usesD_len]
 have hE : E = 0 := good (by simp [hd, hr])
 rw [hE]
 simp [T, xf_message_Check, h1, h2, h3, h4, h5, h6, h7, h8, w1, w2, w3, rowV_2, usesD_len]
theorem e_mCheck_3 (c : Cfg) (m : Msg) (hk : m.kind = 3) (hc : cfgOk c) (hl : m.log.length ≤ 1048577) (hn : 1048577 < n) : runFn T n (d + 3) 33 [.dat (encCfg c), .dat (encM m)] [] = some (.dat (di (msgErr c m)), []) := by
 have h1 := e_message_config (n := n) (d := d + 1) c
 rw [decide_eq_true hc] at h1
 have h2 := e_message_is (n := n) (d := d + 1) 3
 have h3 := e_message_unused (n := n) (d := d + 1) m (by omega) hn
 have h4 := e_numbers_3 (n := n) (d := d + 1) c m hk hc
 have h5 := e_message_asks (n := n) (d := d) 3 m.entry
 have h6 := e_message_answers (n := n) (d := d + 1) m.result
 have h7 := e_message_reads (n := n) (d := d + 1) m
 have h8 := e_oplog_Check (n := n) (d := d + 1) m.log c.room hl
 have w1 := wrap_small (x := 2 * c.f) (by unfold cfgOk at hc; omega)
 have w2 := wrap_small (x := 2 * c.f + 1) (by unfold cfgOk at hc; omega)
 have w3 : ¬ (2 * c.f + 1 = 0) := by unfold cfgOk at hc; omega
 have hkk : 1 ≤ m.kind ∧ m.kind ≤ 14 := by omega
 have bad := msgErr_bad hc hkk
 have good := msgErr_good hc hkk
 have node := nums_node (c := c) (m := m)
 have hd : msgOk c m = (unusedOk m && (numsOk c m && restOk c m)) := rfl
 have hr : restOk c m = ((!ub m.kind 6 || asksOk m.kind m.entry) && ((!ub m.kind 7 || (answersOk m.result && readsOk m)) && ((!ub m.kind 9 || decide ((m.vector.length : Int) = NN c)) && ((!ub m.kind 5 || !(decide (m.draw.hi = 0) && decide (m.draw.lo = 0))) && ((!ub m.kind 8 || decide (logErr m.log c.room = 0)) && (!drawNot m && !lateLog c m)))))) := rfl
 unfold drawNot lateLog NN at hr
 generalize msgErr c m = E at *
 generalize unusedOk m = B1 at *
 generalize numsOk c m = B2 at *
 generalize answersOk m.result = B4 at *
 generalize readsOk m = B5 at *
 obtain ⟨kd, nd, vw, en, rs, pl, cm, ls, dr, lg, vc⟩ := m
 simp only at hk h3 h4 h5 h6 h7 h8 node hr hl
 subst hk
 generalize asksOk 3 en = B3 at *
 generalize logErr lg c.room = LE at *
 simp only [ub_3_5, ub_3_6, ub_3_7, ub_3_8, ub_3_9] at hr
 simp at hr
 rw [runFn_succ]
 cases B1
 ·have hE : E = 71 := bad (by simp [hd])
  rw [hE]
  simp [T, xf_message_Check, h1, h2, h3, h4, h5, h6, h7, h8, w1, w2, w3, rowV_3, usesD_len]
 cases B2
 ·have hE : E = 71 := bad (by simp [hd])
  rw [hE]
  simp [T, xf_message_Check, h1, h2, h3, h4, h5, h6, h7, h8, w1, w2, w3, rowV_3, usesD_len]
 cases B3
 ·have hE : E = 71 := bad (by simp [hd, hr])
  rw [hE]
  simp [T, xf_message_Check, h1, h2, h3, h4, h5, h6, h7, h8, w1, w2, w3, rowV_3, usesD_len]
 by_cases gv : (vc.length : Int) = 2 * c.f + 1
 case neg =>
  have hE : E = 71 := bad (by simp [hd, hr, gv])
  rw [hE]
  simp [T, xf_message_Check, h1, h2, h3, h4, h5, h6, h7, h8, w1, w2, w3, rowV_3, usesD_len, gv]
 have hE : E = 0 := good (by simp [hd, hr, gv])
 rw [hE]
 simp [T, xf_message_Check, h1, h2, h3, h4, h5, h6, h7, h8, w1, w2, w3, rowV_3, usesD_len, gv]
theorem e_mCheck_4 (c : Cfg) (m : Msg) (hk : m.kind = 4) (hc : cfgOk c) (hl : m.log.length ≤ 1048577) (hn : 1048577 < n) : runFn T n (d + 3) 33 [.dat (encCfg c), .dat (encM m)] [] = some (.dat (di (msgErr c m)), []) := by
 have h1 := e_message_config (n := n) (d := d + 1) c
 rw [decide_eq_true hc] at h1
 have h2 := e_message_is (n := n) (d := d + 1) 4
 have h3 := e_message_unused (n := n) (d := d + 1) m (by omega) hn
 have h4 := e_numbers_4 (n := n) (d := d + 1) c m hk hc
 have h5 := e_message_asks (n := n) (d := d) 4 m.entry
 have h6 := e_message_answers (n := n) (d := d + 1) m.result
 have h7 := e_message_reads (n := n) (d := d + 1) m
 have h8 := e_oplog_Check (n := n) (d := d + 1) m.log c.room hl
 have w1 := wrap_small (x := 2 * c.f) (by unfold cfgOk at hc; omega)
 have w2 := wrap_small (x := 2 * c.f + 1) (by unfold cfgOk at hc; omega)
 have w3 : ¬ (2 * c.f + 1 = 0) := by unfold cfgOk at hc; omega
 have hkk : 1 ≤ m.kind ∧ m.kind ≤ 14 := by omega
 have bad := msgErr_bad hc hkk
 have good := msgErr_good hc hkk
 have node := nums_node (c := c) (m := m)
 have hd : msgOk c m = (unusedOk m && (numsOk c m && restOk c m)) := rfl
 have hr : restOk c m = ((!ub m.kind 6 || asksOk m.kind m.entry) && ((!ub m.kind 7 || (answersOk m.result && readsOk m)) && ((!ub m.kind 9 || decide ((m.vector.length : Int) = NN c)) && ((!ub m.kind 5 || !(decide (m.draw.hi = 0) && decide (m.draw.lo = 0))) && ((!ub m.kind 8 || decide (logErr m.log c.room = 0)) && (!drawNot m && !lateLog c m)))))) := rfl
 unfold drawNot lateLog NN at hr
 generalize msgErr c m = E at *
 generalize unusedOk m = B1 at *
 generalize numsOk c m = B2 at *
 generalize answersOk m.result = B4 at *
 generalize readsOk m = B5 at *
 obtain ⟨kd, nd, vw, en, rs, pl, cm, ls, dr, lg, vc⟩ := m
 simp only at hk h3 h4 h5 h6 h7 h8 node hr hl
 subst hk
 generalize asksOk 4 en = B3 at *
 generalize logErr lg c.room = LE at *
 simp only [ub_4_5, ub_4_6, ub_4_7, ub_4_8, ub_4_9] at hr
 simp at hr
 rw [runFn_succ]
 cases B1
 ·have hE : E = 71 := bad (by simp [hd])
  rw [hE]
  simp [T, xf_message_Check, h1, h2, h3, h4, h5, h6, h7, h8, w1, w2, w3, rowV_4, usesD_len]
 cases B2
 ·have hE : E = 71 := bad (by simp [hd])
  rw [hE]
  simp [T, xf_message_Check, h1, h2, h3, h4, h5, h6, h7, h8, w1, w2, w3, rowV_4, usesD_len]
 by_cases gv : (vc.length : Int) = 2 * c.f + 1
 case neg =>
  have hE : E = 71 := bad (by simp [hd, hr, gv])
  rw [hE]
  simp [T, xf_message_Check, h1, h2, h3, h4, h5, h6, h7, h8, w1, w2, w3, rowV_4, usesD_len, gv]
 have hE : E = 0 := good (by simp [hd, hr, gv])
 rw [hE]
 simp [T, xf_message_Check, h1, h2, h3, h4, h5, h6, h7, h8, w1, w2, w3, rowV_4, usesD_len, gv]
theorem e_mCheck_5 (c : Cfg) (m : Msg) (hk : m.kind = 5) (hc : cfgOk c) (hl : m.log.length ≤ 1048577) (hn : 1048577 < n) : runFn T n (d + 3) 33 [.dat (encCfg c), .dat (encM m)] [] = some (.dat (di (msgErr c m)), []) := by
 have h1 := e_message_config (n := n) (d := d + 1) c
 rw [decide_eq_true hc] at h1
 have h2 := e_message_is (n := n) (d := d + 1) 5
 have h3 := e_message_unused (n := n) (d := d + 1) m (by omega) hn
 have h4 := e_numbers_5 (n := n) (d := d + 1) c m hk hc
 have h5 := e_message_asks (n := n) (d := d) 5 m.entry
 have h6 := e_message_answers (n := n) (d := d + 1) m.result
 have h7 := e_message_reads (n := n) (d := d + 1) m
 have h8 := e_oplog_Check (n := n) (d := d + 1) m.log c.room hl
 have w1 := wrap_small (x := 2 * c.f) (by unfold cfgOk at hc; omega)
 have w2 := wrap_small (x := 2 * c.f + 1) (by unfold cfgOk at hc; omega)
 have w3 : ¬ (2 * c.f + 1 = 0) := by unfold cfgOk at hc; omega
 have hkk : 1 ≤ m.kind ∧ m.kind ≤ 14 := by omega
 have bad := msgErr_bad hc hkk
 have good := msgErr_good hc hkk
 have node := nums_node (c := c) (m := m)
 have hd : msgOk c m = (unusedOk m && (numsOk c m && restOk c m)) := rfl
 have hr : restOk c m = ((!ub m.kind 6 || asksOk m.kind m.entry) && ((!ub m.kind 7 || (answersOk m.result && readsOk m)) && ((!ub m.kind 9 || decide ((m.vector.length : Int) = NN c)) && ((!ub m.kind 5 || !(decide (m.draw.hi = 0) && decide (m.draw.lo = 0))) && ((!ub m.kind 8 || decide (logErr m.log c.room = 0)) && (!drawNot m && !lateLog c m)))))) := rfl
 unfold drawNot lateLog NN at hr
 generalize msgErr c m = E at *
 generalize unusedOk m = B1 at *
 generalize numsOk c m = B2 at *
 generalize answersOk m.result = B4 at *
 generalize readsOk m = B5 at *
 obtain ⟨kd, nd, vw, en, rs, pl, cm, ls, dr, lg, vc⟩ := m
 simp only at hk h3 h4 h5 h6 h7 h8 node hr hl
 subst hk
 generalize asksOk 5 en = B3 at *
 generalize logErr lg c.room = LE at *
 simp only [ub_5_5, ub_5_6, ub_5_7, ub_5_8, ub_5_9] at hr
 simp at hr
 rw [runFn_succ]
 cases B1
 ·have hE : E = 71 := bad (by simp [hd])
  rw [hE]
  simp [T, xf_message_Check, h1, h2, h3, h4, h5, h6, h7, h8, w1, w2, w3, rowV_5, usesD_len]
 cases B2
 ·have hE : E = 71 := bad (by simp [hd])
  rw [hE]
  simp [T, xf_message_Check, h1, h2, h3, h4, h5, h6, h7, h8, w1, w2, w3, rowV_5, usesD_len]
 by_cases gv : (vc.length : Int) = 2 * c.f + 1
 case neg =>
  have hE : E = 71 := bad (by simp [hd, hr, gv])
  rw [hE]
  simp [T, xf_message_Check, h1, h2, h3, h4, h5, h6, h7, h8, w1, w2, w3, rowV_5, usesD_len, gv]
 have hE : E = 0 := good (by simp [hd, hr, gv])
 rw [hE]
 simp [T, xf_message_Check, h1, h2, h3, h4, h5, h6, h7, h8, w1, w2, w3, rowV_5, usesD_len, gv]
theorem e_mCheck_6 (c : Cfg) (m : Msg) (hk : m.kind = 6) (hc : cfgOk c) (hl : m.log.length ≤ 1048577) (hn : 1048577 < n) : runFn T n (d + 3) 33 [.dat (encCfg c), .dat (encM m)] [] = some (.dat (di (msgErr c m)), []) := by
 have h1 := e_message_config (n := n) (d := d + 1) c
 rw [decide_eq_true hc] at h1
 have h2 := e_message_is (n := n) (d := d + 1) 6
 have h3 := e_message_unused (n := n) (d := d + 1) m (by omega) hn
 have h4 := e_numbers_6 (n := n) (d := d + 1) c m hk hc
 have h5 := e_message_asks (n := n) (d := d) 6 m.entry
 have h6 := e_message_answers (n := n) (d := d + 1) m.result
 have h7 := e_message_reads (n := n) (d := d + 1) m
 have h8 := e_oplog_Check (n := n) (d := d + 1) m.log c.room hl
 have w1 := wrap_small (x := 2 * c.f) (by unfold cfgOk at hc; omega)
 have w2 := wrap_small (x := 2 * c.f + 1) (by unfold cfgOk at hc; omega)
 have w3 : ¬ (2 * c.f + 1 = 0) := by unfold cfgOk at hc; omega
 have hkk : 1 ≤ m.kind ∧ m.kind ≤ 14 := by omega
 have bad := msgErr_bad hc hkk
 have good := msgErr_good hc hkk
 have node := nums_node (c := c) (m := m)
 have hd : msgOk c m = (unusedOk m && (numsOk c m && restOk c m)) := rfl
 have hr : restOk c m = ((!ub m.kind 6 || asksOk m.kind m.entry) && ((!ub m.kind 7 || (answersOk m.result && readsOk m)) && ((!ub m.kind 9 || decide ((m.vector.length : Int) = NN c)) && ((!ub m.kind 5 || !(decide (m.draw.hi = 0) && decide (m.draw.lo = 0))) && ((!ub m.kind 8 || decide (logErr m.log c.room = 0)) && (!drawNot m && !lateLog c m)))))) := rfl
 unfold drawNot lateLog NN at hr
 generalize msgErr c m = E at *
 generalize unusedOk m = B1 at *
 generalize numsOk c m = B2 at *
 generalize answersOk m.result = B4 at *
 generalize readsOk m = B5 at *
 obtain ⟨kd, nd, vw, en, rs, pl, cm, ls, dr, lg, vc⟩ := m
 simp only at hk h3 h4 h5 h6 h7 h8 node hr hl
 subst hk
 generalize asksOk 6 en = B3 at *
 generalize logErr lg c.room = LE at *
 simp only [ub_6_5, ub_6_6, ub_6_7, ub_6_8, ub_6_9] at hr
 simp at hr
 rw [runFn_succ]
 cases B1
 ·have hE : E = 71 := bad (by simp [hd])
  rw [hE]
  simp [T, xf_message_Check, h1, h2, h3, h4, h5, h6, h7, h8, w1, w2, w3, rowV_6, usesD_len]
 cases B2
 ·have hE : E = 71 := bad (by simp [hd])
  rw [hE]
  simp [T, xf_message_Check, h1, h2, h3, h4, h5, h6, h7, h8, w1, w2, w3, rowV_6, usesD_len]
 by_cases gv : (vc.length : Int) = 2 * c.f + 1
 case neg =>
  have hE : E = 71 := bad (by simp [hd, hr, gv])
  rw [hE]
  simp [T, xf_message_Check, h1, h2, h3, h4, h5, h6, h7, h8, w1, w2, w3, rowV_6, usesD_len, gv]
 have hE : E = 0 := good (by simp [hd, hr, gv])
 rw [hE]
 simp [T, xf_message_Check, h1, h2, h3, h4, h5, h6, h7, h8, w1, w2, w3, rowV_6, usesD_len, gv]
theorem e_mCheck_7 (c : Cfg) (m : Msg) (hk : m.kind = 7) (hc : cfgOk c) (hl : m.log.length ≤ 1048577) (hn : 1048577 < n) : runFn T n (d + 3) 33 [.dat (encCfg c), .dat (encM m)] [] = some (.dat (di (msgErr c m)), []) := by
 have h1 := e_message_config (n := n) (d := d + 1) c
 rw [decide_eq_true hc] at h1
 have h2 := e_message_is (n := n) (d := d + 1) 7
 have h3 := e_message_unused (n := n) (d := d + 1) m (by omega) hn
 have h4 := e_numbers_7 (n := n) (d := d + 1) c m hk hc
 have h5 := e_message_asks (n := n) (d := d) 7 m.entry
 have h6 := e_message_answers (n := n) (d := d + 1) m.result
 have h7 := e_message_reads (n := n) (d := d + 1) m
 have h8 := e_oplog_Check (n := n) (d := d + 1) m.log c.room hl
 have w1 := wrap_small (x := 2 * c.f) (by unfold cfgOk at hc; omega)
 have w2 := wrap_small (x := 2 * c.f + 1) (by unfold cfgOk at hc; omega)
 have w3 : ¬ (2 * c.f + 1 = 0) := by unfold cfgOk at hc; omega
 have hkk : 1 ≤ m.kind ∧ m.kind ≤ 14 := by omega
 have bad := msgErr_bad hc hkk
 have good := msgErr_good hc hkk
 have node := nums_node (c := c) (m := m)
 have hd : msgOk c m = (unusedOk m && (numsOk c m && restOk c m)) := rfl
 have hr : restOk c m = ((!ub m.kind 6 || asksOk m.kind m.entry) && ((!ub m.kind 7 || (answersOk m.result && readsOk m)) && ((!ub m.kind 9 || decide ((m.vector.length : Int) = NN c)) && ((!ub m.kind 5 || !(decide (m.draw.hi = 0) && decide (m.draw.lo = 0))) && ((!ub m.kind 8 || decide (logErr m.log c.room = 0)) && (!drawNot m && !lateLog c m)))))) := rfl
 unfold drawNot lateLog NN at hr
 generalize msgErr c m = E at *
 generalize unusedOk m = B1 at *
 generalize numsOk c m = B2 at *
 generalize answersOk m.result = B4 at *
 generalize readsOk m = B5 at *
 obtain ⟨kd, nd, vw, en, rs, pl, cm, ls, dr, lg, vc⟩ := m
 simp only at hk h3 h4 h5 h6 h7 h8 node hr hl
 subst hk
 generalize asksOk 7 en = B3 at *
 generalize logErr lg c.room = LE at *
 simp only [ub_7_5, ub_7_6, ub_7_7, ub_7_8, ub_7_9] at hr
 simp at hr
 rw [runFn_succ]
 cases B1
 ·have hE : E = 71 := bad (by simp [hd])
  rw [hE]
  simp [T, xf_message_Check, h1, h2, h3, h4, h5, h6, h7, h8, w1, w2, w3, rowV_7, usesD_len]
 cases B2
 ·have hE : E = 71 := bad (by simp [hd])
  rw [hE]
  simp [T, xf_message_Check, h1, h2, h3, h4, h5, h6, h7, h8, w1, w2, w3, rowV_7, usesD_len]
 by_cases gv : (vc.length : Int) = 2 * c.f + 1
 case neg =>
  have hE : E = 71 := bad (by simp [hd, hr, gv])
  rw [hE]
  simp [T, xf_message_Check, h1, h2, h3, h4, h5, h6, h7, h8, w1, w2, w3, rowV_7, usesD_len, gv]
 by_cases gl : LE = 0
 case neg =>
  have hE : E = 71 := bad (by simp [hd, hr, gl, gv])
  rw [hE]
  simp [T, xf_message_Check, h1, h2, h3, h4, h5, h6, h7, h8, w1, w2, w3, rowV_7, usesD_len, gl, gv]
 have hE : E = 0 := good (by simp [hd, hr, gv, gl])
 rw [hE]
 simp [T, xf_message_Check, h1, h2, h3, h4, h5, h6, h7, h8, w1, w2, w3, rowV_7, usesD_len, gv, gl]
theorem e_mCheck_8 (c : Cfg) (m : Msg) (hk : m.kind = 8) (hc : cfgOk c) (hl : m.log.length ≤ 1048577) (hn : 1048577 < n) : runFn T n (d + 3) 33 [.dat (encCfg c), .dat (encM m)] [] = some (.dat (di (msgErr c m)), []) := by
 have h1 := e_message_config (n := n) (d := d + 1) c
 rw [decide_eq_true hc] at h1
 have h2 := e_message_is (n := n) (d := d + 1) 8
 have h3 := e_message_unused (n := n) (d := d + 1) m (by omega) hn
 have h4 := e_numbers_8 (n := n) (d := d + 1) c m hk hc
 have h5 := e_message_asks (n := n) (d := d) 8 m.entry
 have h6 := e_message_answers (n := n) (d := d + 1) m.result
 have h7 := e_message_reads (n := n) (d := d + 1) m
 have h8 := e_oplog_Check (n := n) (d := d + 1) m.log c.room hl
 have w1 := wrap_small (x := 2 * c.f) (by unfold cfgOk at hc; omega)
 have w2 := wrap_small (x := 2 * c.f + 1) (by unfold cfgOk at hc; omega)
 have w3 : ¬ (2 * c.f + 1 = 0) := by unfold cfgOk at hc; omega
 have hkk : 1 ≤ m.kind ∧ m.kind ≤ 14 := by omega
 have bad := msgErr_bad hc hkk
 have good := msgErr_good hc hkk
 have node := nums_node (c := c) (m := m)
 have hd : msgOk c m = (unusedOk m && (numsOk c m && restOk c m)) := rfl
 have hr : restOk c m = ((!ub m.kind 6 || asksOk m.kind m.entry) && ((!ub m.kind 7 || (answersOk m.result && readsOk m)) && ((!ub m.kind 9 || decide ((m.vector.length : Int) = NN c)) && ((!ub m.kind 5 || !(decide (m.draw.hi = 0) && decide (m.draw.lo = 0))) && ((!ub m.kind 8 || decide (logErr m.log c.room = 0)) && (!drawNot m && !lateLog c m)))))) := rfl
 unfold drawNot lateLog NN at hr
 generalize msgErr c m = E at *
 generalize unusedOk m = B1 at *
 generalize numsOk c m = B2 at *
 generalize answersOk m.result = B4 at *
 generalize readsOk m = B5 at *
 obtain ⟨kd, nd, vw, en, rs, pl, cm, ls, dr, lg, vc⟩ := m
 simp only at hk h3 h4 h5 h6 h7 h8 node hr hl
 subst hk
 generalize asksOk 8 en = B3 at *
 generalize logErr lg c.room = LE at *
 simp only [ub_8_5, ub_8_6, ub_8_7, ub_8_8, ub_8_9] at hr
 simp at hr
 rw [runFn_succ]
 cases B1
 ·have hE : E = 71 := bad (by simp [hd])
  rw [hE]
  simp [T, xf_message_Check, h1, h2, h3, h4, h5, h6, h7, h8, w1, w2, w3, rowV_8, usesD_len]
 cases B2
 ·have hE : E = 71 := bad (by simp [hd])
  rw [hE]
  simp [T, xf_message_Check, h1, h2, h3, h4, h5, h6, h7, h8, w1, w2, w3, rowV_8, usesD_len]
 by_cases gv : (vc.length : Int) = 2 * c.f + 1
 case neg =>
  have hE : E = 71 := bad (by simp [hd, hr, gv])
  rw [hE]
  simp [T, xf_message_Check, h1, h2, h3, h4, h5, h6, h7, h8, w1, w2, w3, rowV_8, usesD_len, gv]
 by_cases gl : LE = 0
 case neg =>
  have hE : E = 71 := bad (by simp [hd, hr, gl, gv])
  rw [hE]
  simp [T, xf_message_Check, h1, h2, h3, h4, h5, h6, h7, h8, w1, w2, w3, rowV_8, usesD_len, gl, gv]
 have hE : E = 0 := good (by simp [hd, hr, gv, gl])
 rw [hE]
 simp [T, xf_message_Check, h1, h2, h3, h4, h5, h6, h7, h8, w1, w2, w3, rowV_8, usesD_len, gv, gl]
theorem e_mCheck_9 (c : Cfg) (m : Msg) (hk : m.kind = 9) (hc : cfgOk c) (hl : m.log.length ≤ 1048577) (hn : 1048577 < n) : runFn T n (d + 3) 33 [.dat (encCfg c), .dat (encM m)] [] = some (.dat (di (msgErr c m)), []) := by
 have h1 := e_message_config (n := n) (d := d + 1) c
 rw [decide_eq_true hc] at h1
 have h2 := e_message_is (n := n) (d := d + 1) 9
 have h3 := e_message_unused (n := n) (d := d + 1) m (by omega) hn
 have h4 := e_numbers_9 (n := n) (d := d + 1) c m hk hc
 have h5 := e_message_asks (n := n) (d := d) 9 m.entry
 have h6 := e_message_answers (n := n) (d := d + 1) m.result
 have h7 := e_message_reads (n := n) (d := d + 1) m
 have h8 := e_oplog_Check (n := n) (d := d + 1) m.log c.room hl
 have w1 := wrap_small (x := 2 * c.f) (by unfold cfgOk at hc; omega)
 have w2 := wrap_small (x := 2 * c.f + 1) (by unfold cfgOk at hc; omega)
 have w3 : ¬ (2 * c.f + 1 = 0) := by unfold cfgOk at hc; omega
 have hkk : 1 ≤ m.kind ∧ m.kind ≤ 14 := by omega
 have bad := msgErr_bad hc hkk
 have good := msgErr_good hc hkk
 have node := nums_node (c := c) (m := m)
 have hd : msgOk c m = (unusedOk m && (numsOk c m && restOk c m)) := rfl
 have hr : restOk c m = ((!ub m.kind 6 || asksOk m.kind m.entry) && ((!ub m.kind 7 || (answersOk m.result && readsOk m)) && ((!ub m.kind 9 || decide ((m.vector.length : Int) = NN c)) && ((!ub m.kind 5 || !(decide (m.draw.hi = 0) && decide (m.draw.lo = 0))) && ((!ub m.kind 8 || decide (logErr m.log c.room = 0)) && (!drawNot m && !lateLog c m)))))) := rfl
 unfold drawNot lateLog NN at hr
 generalize msgErr c m = E at *
 generalize unusedOk m = B1 at *
 generalize numsOk c m = B2 at *
 generalize answersOk m.result = B4 at *
 generalize readsOk m = B5 at *
 obtain ⟨kd, nd, vw, en, rs, pl, cm, ls, dr, lg, vc⟩ := m
 simp only at hk h3 h4 h5 h6 h7 h8 node hr hl
 subst hk
 generalize asksOk 9 en = B3 at *
 generalize logErr lg c.room = LE at *
 simp only [ub_9_5, ub_9_6, ub_9_7, ub_9_8, ub_9_9] at hr
 simp at hr
 rw [runFn_succ]
 cases B1
 ·have hE : E = 71 := bad (by simp [hd])
  rw [hE]
  simp [T, xf_message_Check, h1, h2, h3, h4, h5, h6, h7, h8, w1, w2, w3, rowV_9, usesD_len]
 cases B2
 ·have hE : E = 71 := bad (by simp [hd])
  rw [hE]
  simp [T, xf_message_Check, h1, h2, h3, h4, h5, h6, h7, h8, w1, w2, w3, rowV_9, usesD_len]
 by_cases gv : (vc.length : Int) = 2 * c.f + 1
 case neg =>
  have hE : E = 71 := bad (by simp [hd, hr, gv])
  rw [hE]
  simp [T, xf_message_Check, h1, h2, h3, h4, h5, h6, h7, h8, w1, w2, w3, rowV_9, usesD_len, gv]
 by_cases gd : dr.hi = 0 ∧ dr.lo = 0
 ·have gd1 := eq_true gd.1
  have gd2 := eq_true gd.2
  have hE : E = 71 := bad (by simp [hd, hr, gd1, gd2, gv])
  rw [hE]
  simp [T, xf_message_Check, h1, h2, h3, h4, h5, h6, h7, h8, w1, w2, w3, rowV_9, usesD_len, gd1, gd2, gv]
 have gd3 : (!decide (dr.hi = 0) || !decide (dr.lo = 0)) = true := by
  by_cases q1 : dr.hi = 0
  ·have q2 : ¬ dr.lo = 0 := fun q2 => gd ⟨q1, q2⟩
   simp [q2]
  ·simp [q1]
 have hnd := node rfl
 have hlt : nd.toNat < vc.length := by simp only [NN] at hnd; omega
 have hlt2 : nd < vc.length := by omega
 rw [List.getElem?_eq_getElem hlt] at hr
 by_cases gx : vc[nd.toNat] = dr
 ·have hE : E = 0 := good (by simp [hd, hr, gx, gv, gd, gd3])
  rw [hE]
  simp [T, xf_message_Check, h1, h2, h3, h4, h5, h6, h7, h8, w1, w2, w3, rowV_9, usesD_len, gx, hnd, hlt, hlt2, gv, gd, gd3]
 ·have gx2 : ¬ (vc[nd.toNat].hi = dr.hi ∧ vc[nd.toNat].lo = dr.lo) := by
   intro h
   apply gx
   cases hv : vc[nd.toNat]
   cases dr
   simp [hv] at h
   simp [h]
  have gx3 : ¬ vc[nd.toNat].hi = dr.hi ∨ ¬ vc[nd.toNat].lo = dr.lo := by
   by_cases q : vc[nd.toNat].hi = dr.hi
   ·exact .inr fun q2 => gx2 ⟨q, q2⟩
   ·exact .inl q
  have hE : E = 71 := bad (by simp [hd, hr, gx, gv, gd, gd3])
  rw [hE]
  simp [T, xf_message_Check, h1, h2, h3, h4, h5, h6, h7, h8, w1, w2, w3, rowV_9, usesD_len, gx2, gx3, hnd, hlt, hlt2, gv, gd, gd3]
theorem e_mCheck_10 (c : Cfg) (m : Msg) (hk : m.kind = 10) (hc : cfgOk c) (hl : m.log.length ≤ 1048577) (hn : 1048577 < n) : runFn T n (d + 3) 33 [.dat (encCfg c), .dat (encM m)] [] = some (.dat (di (msgErr c m)), []) := by
 have h1 := e_message_config (n := n) (d := d + 1) c
 rw [decide_eq_true hc] at h1
 have h2 := e_message_is (n := n) (d := d + 1) 10
 have h3 := e_message_unused (n := n) (d := d + 1) m (by omega) hn
 have h4 := e_numbers_10 (n := n) (d := d + 1) c m hk hc
 have h5 := e_message_asks (n := n) (d := d) 10 m.entry
 have h6 := e_message_answers (n := n) (d := d + 1) m.result
 have h7 := e_message_reads (n := n) (d := d + 1) m
 have h8 := e_oplog_Check (n := n) (d := d + 1) m.log c.room hl
 have w1 := wrap_small (x := 2 * c.f) (by unfold cfgOk at hc; omega)
 have w2 := wrap_small (x := 2 * c.f + 1) (by unfold cfgOk at hc; omega)
 have w3 : ¬ (2 * c.f + 1 = 0) := by unfold cfgOk at hc; omega
 have hkk : 1 ≤ m.kind ∧ m.kind ≤ 14 := by omega
 have bad := msgErr_bad hc hkk
 have good := msgErr_good hc hkk
 have node := nums_node (c := c) (m := m)
 have hd : msgOk c m = (unusedOk m && (numsOk c m && restOk c m)) := rfl
 have hr : restOk c m = ((!ub m.kind 6 || asksOk m.kind m.entry) && ((!ub m.kind 7 || (answersOk m.result && readsOk m)) && ((!ub m.kind 9 || decide ((m.vector.length : Int) = NN c)) && ((!ub m.kind 5 || !(decide (m.draw.hi = 0) && decide (m.draw.lo = 0))) && ((!ub m.kind 8 || decide (logErr m.log c.room = 0)) && (!drawNot m && !lateLog c m)))))) := rfl
 unfold drawNot lateLog NN at hr
 generalize msgErr c m = E at *
 generalize unusedOk m = B1 at *
 generalize numsOk c m = B2 at *
 generalize answersOk m.result = B4 at *
 generalize readsOk m = B5 at *
 obtain ⟨kd, nd, vw, en, rs, pl, cm, ls, dr, lg, vc⟩ := m
 simp only at hk h3 h4 h5 h6 h7 h8 node hr hl
 subst hk
 generalize asksOk 10 en = B3 at *
 generalize logErr lg c.room = LE at *
 simp only [ub_10_5, ub_10_6, ub_10_7, ub_10_8, ub_10_9] at hr
 simp at hr
 rw [runFn_succ]
 cases B1
 ·have hE : E = 71 := bad (by simp [hd])
  rw [hE]
  simp [T, xf_message_Check, h1, h2, h3, h4, h5, h6, h7, h8, w1, w2, w3, rowV_10, usesD_len]
 cases B2
 ·have hE : E = 71 := bad (by simp [hd])
  rw [hE]
  simp [T, xf_message_Check, h1, h2, h3, h4, h5, h6, h7, h8, w1, w2, w3, rowV_10, usesD_len]
 by_cases gv : (vc.length : Int) = 2 * c.f + 1
 case neg =>
  have hE : E = 71 := bad (by simp [hd, hr, gv])
  rw [hE]
  simp [T, xf_message_Check, h1, h2, h3, h4, h5, h6, h7, h8, w1, w2, w3, rowV_10, usesD_len, gv]
 by_cases gd : dr.hi = 0 ∧ dr.lo = 0
 ·have gd1 := eq_true gd.1
  have gd2 := eq_true gd.2
  have hE : E = 71 := bad (by simp [hd, hr, gd1, gd2, gv])
  rw [hE]
  simp [T, xf_message_Check, h1, h2, h3, h4, h5, h6, h7, h8, w1, w2, w3, rowV_10, usesD_len, gd1, gd2, gv]
 have gd3 : (!decide (dr.hi = 0) || !decide (dr.lo = 0)) = true := by
  by_cases q1 : dr.hi = 0
  ·have q2 : ¬ dr.lo = 0 := fun q2 => gd ⟨q1, q2⟩
   simp [q2]
  ·simp [q1]
 by_cases gl : LE = 0
 case neg =>
  have hE : E = 71 := bad (by simp [hd, hr, gl, gv, gd, gd3])
  rw [hE]
  simp [T, xf_message_Check, h1, h2, h3, h4, h5, h6, h7, h8, w1, w2, w3, rowV_10, usesD_len, gl, gv, gd, gd3]
 by_cases gx : lg = []
 ·have gx1 := eq_true gx
  have gx' : ¬ 0 < lg.length := by simp [gx]
  have hE : E = 0 := good (by simp [hd, hr, gx1, gv, gd, gd3, gl])
  rw [hE]
  simp [T, xf_message_Check, h1, h2, h3, h4, h5, h6, h7, h8, w1, w2, w3, rowV_10, usesD_len, gx1, gx', gv, gd, gd3, gl]
 ·have gx' : 0 < lg.length := List.length_pos_iff.2 gx
  by_cases gy : nd = vw.tmod (2 * c.f + 1)
  ·have gy1 := eq_true gy
   have hE : E = 0 := good (by simp [hd, hr, gx, gy1, gv, gd, gd3, gl])
   rw [hE]
   simp [T, xf_message_Check, h1, h2, h3, h4, h5, h6, h7, h8, w1, w2, w3, rowV_10, usesD_len, gx, gx', gy1, gv, gd, gd3, gl]
  ·have hE : E = 71 := bad (by simp [hd, hr, gx, gy, gv, gd, gd3, gl])
   rw [hE]
   simp [T, xf_message_Check, h1, h2, h3, h4, h5, h6, h7, h8, w1, w2, w3, rowV_10, usesD_len, gx, gx', gy, gv, gd, gd3, gl]
theorem e_mCheck_11 (c : Cfg) (m : Msg) (hk : m.kind = 11) (hc : cfgOk c) (hl : m.log.length ≤ 1048577) (hn : 1048577 < n) : runFn T n (d + 3) 33 [.dat (encCfg c), .dat (encM m)] [] = some (.dat (di (msgErr c m)), []) := by
 have h1 := e_message_config (n := n) (d := d + 1) c
 rw [decide_eq_true hc] at h1
 have h2 := e_message_is (n := n) (d := d + 1) 11
 have h3 := e_message_unused (n := n) (d := d + 1) m (by omega) hn
 have h4 := e_numbers_11 (n := n) (d := d + 1) c m hk hc
 have h5 := e_message_asks (n := n) (d := d) 11 m.entry
 have h6 := e_message_answers (n := n) (d := d + 1) m.result
 have h7 := e_message_reads (n := n) (d := d + 1) m
 have h8 := e_oplog_Check (n := n) (d := d + 1) m.log c.room hl
 have w1 := wrap_small (x := 2 * c.f) (by unfold cfgOk at hc; omega)
 have w2 := wrap_small (x := 2 * c.f + 1) (by unfold cfgOk at hc; omega)
 have w3 : ¬ (2 * c.f + 1 = 0) := by unfold cfgOk at hc; omega
 have hkk : 1 ≤ m.kind ∧ m.kind ≤ 14 := by omega
 have bad := msgErr_bad hc hkk
 have good := msgErr_good hc hkk
 have node := nums_node (c := c) (m := m)
 have hd : msgOk c m = (unusedOk m && (numsOk c m && restOk c m)) := rfl
 have hr : restOk c m = ((!ub m.kind 6 || asksOk m.kind m.entry) && ((!ub m.kind 7 || (answersOk m.result && readsOk m)) && ((!ub m.kind 9 || decide ((m.vector.length : Int) = NN c)) && ((!ub m.kind 5 || !(decide (m.draw.hi = 0) && decide (m.draw.lo = 0))) && ((!ub m.kind 8 || decide (logErr m.log c.room = 0)) && (!drawNot m && !lateLog c m)))))) := rfl
 unfold drawNot lateLog NN at hr
 generalize msgErr c m = E at *
 generalize unusedOk m = B1 at *
 generalize numsOk c m = B2 at *
 generalize answersOk m.result = B4 at *
 generalize readsOk m = B5 at *
 obtain ⟨kd, nd, vw, en, rs, pl, cm, ls, dr, lg, vc⟩ := m
 simp only at hk h3 h4 h5 h6 h7 h8 node hr hl
 subst hk
 generalize asksOk 11 en = B3 at *
 generalize logErr lg c.room = LE at *
 simp only [ub_11_5, ub_11_6, ub_11_7, ub_11_8, ub_11_9] at hr
 simp at hr
 rw [runFn_succ]
 cases B1
 ·have hE : E = 71 := bad (by simp [hd])
  rw [hE]
  simp [T, xf_message_Check, h1, h2, h3, h4, h5, h6, h7, h8, w1, w2, w3, rowV_11, usesD_len]
 cases B2
 ·have hE : E = 71 := bad (by simp [hd])
  rw [hE]
  simp [T, xf_message_Check, h1, h2, h3, h4, h5, h6, h7, h8, w1, w2, w3, rowV_11, usesD_len]
 by_cases gv : (vc.length : Int) = 2 * c.f + 1
 case neg =>
  have hE : E = 71 := bad (by simp [hd, hr, gv])
  rw [hE]
  simp [T, xf_message_Check, h1, h2, h3, h4, h5, h6, h7, h8, w1, w2, w3, rowV_11, usesD_len, gv]
 have hE : E = 0 := good (by simp [hd, hr, gv])
 rw [hE]
 simp [T, xf_message_Check, h1, h2, h3, h4, h5, h6, h7, h8, w1, w2, w3, rowV_11, usesD_len, gv]
theorem e_mCheck_12 (c : Cfg) (m : Msg) (hk : m.kind = 12) (hc : cfgOk c) (hl : m.log.length ≤ 1048577) (hn : 1048577 < n) : runFn T n (d + 3) 33 [.dat (encCfg c), .dat (encM m)] [] = some (.dat (di (msgErr c m)), []) := by
 have h1 := e_message_config (n := n) (d := d + 1) c
 rw [decide_eq_true hc] at h1
 have h2 := e_message_is (n := n) (d := d + 1) 12
 have h3 := e_message_unused (n := n) (d := d + 1) m (by omega) hn
 have h4 := e_numbers_12 (n := n) (d := d + 1) c m hk hc
 have h5 := e_message_asks (n := n) (d := d) 12 m.entry
 have h6 := e_message_answers (n := n) (d := d + 1) m.result
 have h7 := e_message_reads (n := n) (d := d + 1) m
 have h8 := e_oplog_Check (n := n) (d := d + 1) m.log c.room hl
 have w1 := wrap_small (x := 2 * c.f) (by unfold cfgOk at hc; omega)
 have w2 := wrap_small (x := 2 * c.f + 1) (by unfold cfgOk at hc; omega)
 have w3 : ¬ (2 * c.f + 1 = 0) := by unfold cfgOk at hc; omega
 have hkk : 1 ≤ m.kind ∧ m.kind ≤ 14 := by omega
 have bad := msgErr_bad hc hkk
 have good := msgErr_good hc hkk
 have node := nums_node (c := c) (m := m)
 have hd : msgOk c m = (unusedOk m && (numsOk c m && restOk c m)) := rfl
 have hr : restOk c m = ((!ub m.kind 6 || asksOk m.kind m.entry) && ((!ub m.kind 7 || (answersOk m.result && readsOk m)) && ((!ub m.kind 9 || decide ((m.vector.length : Int) = NN c)) && ((!ub m.kind 5 || !(decide (m.draw.hi = 0) && decide (m.draw.lo = 0))) && ((!ub m.kind 8 || decide (logErr m.log c.room = 0)) && (!drawNot m && !lateLog c m)))))) := rfl
 unfold drawNot lateLog NN at hr
 generalize msgErr c m = E at *
 generalize unusedOk m = B1 at *
 generalize numsOk c m = B2 at *
 generalize answersOk m.result = B4 at *
 generalize readsOk m = B5 at *
 obtain ⟨kd, nd, vw, en, rs, pl, cm, ls, dr, lg, vc⟩ := m
 simp only at hk h3 h4 h5 h6 h7 h8 node hr hl
 subst hk
 generalize asksOk 12 en = B3 at *
 generalize logErr lg c.room = LE at *
 simp only [ub_12_5, ub_12_6, ub_12_7, ub_12_8, ub_12_9] at hr
 simp at hr
 rw [runFn_succ]
 cases B1
 ·have hE : E = 71 := bad (by simp [hd])
  rw [hE]
  simp [T, xf_message_Check, h1, h2, h3, h4, h5, h6, h7, h8, w1, w2, w3, rowV_12, usesD_len]
 cases B2
 ·have hE : E = 71 := bad (by simp [hd])
  rw [hE]
  simp [T, xf_message_Check, h1, h2, h3, h4, h5, h6, h7, h8, w1, w2, w3, rowV_12, usesD_len]
 by_cases gv : (vc.length : Int) = 2 * c.f + 1
 case neg =>
  have hE : E = 71 := bad (by simp [hd, hr, gv])
  rw [hE]
  simp [T, xf_message_Check, h1, h2, h3, h4, h5, h6, h7, h8, w1, w2, w3, rowV_12, usesD_len, gv]
 by_cases gl : LE = 0
 case neg =>
  have hE : E = 71 := bad (by simp [hd, hr, gl, gv])
  rw [hE]
  simp [T, xf_message_Check, h1, h2, h3, h4, h5, h6, h7, h8, w1, w2, w3, rowV_12, usesD_len, gl, gv]
 have hE : E = 0 := good (by simp [hd, hr, gv, gl])
 rw [hE]
 simp [T, xf_message_Check, h1, h2, h3, h4, h5, h6, h7, h8, w1, w2, w3, rowV_12, usesD_len, gv, gl]
theorem e_mCheck_13 (c : Cfg) (m : Msg) (hk : m.kind = 13) (hc : cfgOk c) (hl : m.log.length ≤ 1048577) (hn : 1048577 < n) : runFn T n (d + 3) 33 [.dat (encCfg c), .dat (encM m)] [] = some (.dat (di (msgErr c m)), []) := by
 have h1 := e_message_config (n := n) (d := d + 1) c
 rw [decide_eq_true hc] at h1
 have h2 := e_message_is (n := n) (d := d + 1) 13
 have h3 := e_message_unused (n := n) (d := d + 1) m (by omega) hn
 have h4 := e_numbers_13 (n := n) (d := d + 1) c m hk hc
 have h5 := e_message_asks (n := n) (d := d) 13 m.entry
 have h6 := e_message_answers (n := n) (d := d + 1) m.result
 have h7 := e_message_reads (n := n) (d := d + 1) m
 have h8 := e_oplog_Check (n := n) (d := d + 1) m.log c.room hl
 have w1 := wrap_small (x := 2 * c.f) (by unfold cfgOk at hc; omega)
 have w2 := wrap_small (x := 2 * c.f + 1) (by unfold cfgOk at hc; omega)
 have w3 : ¬ (2 * c.f + 1 = 0) := by unfold cfgOk at hc; omega
 have hkk : 1 ≤ m.kind ∧ m.kind ≤ 14 := by omega
 have bad := msgErr_bad hc hkk
 have good := msgErr_good hc hkk
 have node := nums_node (c := c) (m := m)
 have hd : msgOk c m = (unusedOk m && (numsOk c m && restOk c m)) := rfl
 have hr : restOk c m = ((!ub m.kind 6 || asksOk m.kind m.entry) && ((!ub m.kind 7 || (answersOk m.result && readsOk m)) && ((!ub m.kind 9 || decide ((m.vector.length : Int) = NN c)) && ((!ub m.kind 5 || !(decide (m.draw.hi = 0) && decide (m.draw.lo = 0))) && ((!ub m.kind 8 || decide (logErr m.log c.room = 0)) && (!drawNot m && !lateLog c m)))))) := rfl
 unfold drawNot lateLog NN at hr
 generalize msgErr c m = E at *
 generalize unusedOk m = B1 at *
 generalize numsOk c m = B2 at *
 generalize answersOk m.result = B4 at *
 generalize readsOk m = B5 at *
 obtain ⟨kd, nd, vw, en, rs, pl, cm, ls, dr, lg, vc⟩ := m
 simp only at hk h3 h4 h5 h6 h7 h8 node hr hl
 subst hk
 generalize asksOk 13 en = B3 at *
 generalize logErr lg c.room = LE at *
 simp only [ub_13_5, ub_13_6, ub_13_7, ub_13_8, ub_13_9] at hr
 simp at hr
 rw [runFn_succ]
 cases B1
 ·have hE : E = 71 := bad (by simp [hd])
  rw [hE]
  simp [T, xf_message_Check, h1, h2, h3, h4, h5, h6, h7, h8, w1, w2, w3, rowV_13, usesD_len]
 cases B2
 ·have hE : E = 71 := bad (by simp [hd])
  rw [hE]
  simp [T, xf_message_Check, h1, h2, h3, h4, h5, h6, h7, h8, w1, w2, w3, rowV_13, usesD_len]
 cases B3
 ·have hE : E = 71 := bad (by simp [hd, hr])
  rw [hE]
  simp [T, xf_message_Check, h1, h2, h3, h4, h5, h6, h7, h8, w1, w2, w3, rowV_13, usesD_len]
 have hE : E = 0 := good (by simp [hd, hr])
 rw [hE]
 simp [T, xf_message_Check, h1, h2, h3, h4, h5, h6, h7, h8, w1, w2, w3, rowV_13, usesD_len]
theorem e_mCheck_14 (c : Cfg) (m : Msg) (hk : m.kind = 14) (hc : cfgOk c) (hl : m.log.length ≤ 1048577) (hn : 1048577 < n) : runFn T n (d + 3) 33 [.dat (encCfg c), .dat (encM m)] [] = some (.dat (di (msgErr c m)), []) := by
 have h1 := e_message_config (n := n) (d := d + 1) c
 rw [decide_eq_true hc] at h1
 have h2 := e_message_is (n := n) (d := d + 1) 14
 have h3 := e_message_unused (n := n) (d := d + 1) m (by omega) hn
 have h4 := e_numbers_14 (n := n) (d := d + 1) c m hk hc
 have h5 := e_message_asks (n := n) (d := d) 14 m.entry
 have h6 := e_message_answers (n := n) (d := d + 1) m.result
 have h7 := e_message_reads (n := n) (d := d + 1) m
 have h8 := e_oplog_Check (n := n) (d := d + 1) m.log c.room hl
 have w1 := wrap_small (x := 2 * c.f) (by unfold cfgOk at hc; omega)
 have w2 := wrap_small (x := 2 * c.f + 1) (by unfold cfgOk at hc; omega)
 have w3 : ¬ (2 * c.f + 1 = 0) := by unfold cfgOk at hc; omega
 have hkk : 1 ≤ m.kind ∧ m.kind ≤ 14 := by omega
 have bad := msgErr_bad hc hkk
 have good := msgErr_good hc hkk
 have node := nums_node (c := c) (m := m)
 have hd : msgOk c m = (unusedOk m && (numsOk c m && restOk c m)) := rfl
 have hr : restOk c m = ((!ub m.kind 6 || asksOk m.kind m.entry) && ((!ub m.kind 7 || (answersOk m.result && readsOk m)) && ((!ub m.kind 9 || decide ((m.vector.length : Int) = NN c)) && ((!ub m.kind 5 || !(decide (m.draw.hi = 0) && decide (m.draw.lo = 0))) && ((!ub m.kind 8 || decide (logErr m.log c.room = 0)) && (!drawNot m && !lateLog c m)))))) := rfl
 unfold drawNot lateLog NN at hr
 generalize msgErr c m = E at *
 generalize unusedOk m = B1 at *
 generalize numsOk c m = B2 at *
 generalize answersOk m.result = B4 at *
 generalize readsOk m = B5 at *
 obtain ⟨kd, nd, vw, en, rs, pl, cm, ls, dr, lg, vc⟩ := m
 simp only at hk h3 h4 h5 h6 h7 h8 node hr hl
 subst hk
 generalize asksOk 14 en = B3 at *
 generalize logErr lg c.room = LE at *
 simp only [ub_14_5, ub_14_6, ub_14_7, ub_14_8, ub_14_9] at hr
 simp at hr
 rw [runFn_succ]
 cases B1
 ·have hE : E = 71 := bad (by simp [hd])
  rw [hE]
  simp [T, xf_message_Check, h1, h2, h3, h4, h5, h6, h7, h8, w1, w2, w3, rowV_14, usesD_len]
 cases B2
 ·have hE : E = 71 := bad (by simp [hd])
  rw [hE]
  simp [T, xf_message_Check, h1, h2, h3, h4, h5, h6, h7, h8, w1, w2, w3, rowV_14, usesD_len]
 cases B3
 ·have hE : E = 71 := bad (by simp [hd, hr])
  rw [hE]
  simp [T, xf_message_Check, h1, h2, h3, h4, h5, h6, h7, h8, w1, w2, w3, rowV_14, usesD_len]
 cases B4
 ·have hE : E = 71 := bad (by simp [hd, hr])
  rw [hE]
  simp [T, xf_message_Check, h1, h2, h3, h4, h5, h6, h7, h8, w1, w2, w3, rowV_14, usesD_len]
 cases B5
 ·have hE : E = 71 := bad (by simp [hd, hr])
  rw [hE]
  simp [T, xf_message_Check, h1, h2, h3, h4, h5, h6, h7, h8, w1, w2, w3, rowV_14, usesD_len]
 have hE : E = 0 := good (by simp [hd, hr])
 rw [hE]
 simp [T, xf_message_Check, h1, h2, h3, h4, h5, h6, h7, h8, w1, w2, w3, rowV_14, usesD_len]
theorem e_message_Check (c : Cfg) (m : Msg) (hl : m.log.length ≤ 1048577) (hn : 1048577 < n) : runFn T n (d + 3) 33 [.dat (encCfg c), .dat (encM m)] [] = some (.dat (di (msgErr c m)), []) := by
 by_cases hc : cfgOk c
 ·by_cases hk : 1 ≤ m.kind ∧ m.kind ≤ 14
  ·rcases kind_cases hk with h | h | h | h | h | h | h | h | h | h | h | h | h | h
   ·exact e_mCheck_1 c m h hc hl hn
   ·exact e_mCheck_2 c m h hc hl hn
   ·exact e_mCheck_3 c m h hc hl hn
   ·exact e_mCheck_4 c m h hc hl hn
   ·exact e_mCheck_5 c m h hc hl hn
   ·exact e_mCheck_6 c m h hc hl hn
   ·exact e_mCheck_7 c m h hc hl hn
   ·exact e_mCheck_8 c m h hc hl hn
   ·exact e_mCheck_9 c m h hc hl hn
   ·exact e_mCheck_10 c m h hc hl hn
   ·exact e_mCheck_11 c m h hc hl hn
   ·exact e_mCheck_12 c m h hc hl hn
   ·exact e_mCheck_13 c m h hc hl hn
   ·exact e_mCheck_14 c m h hc hl hn
  ·have h1 := e_message_config (n := n) (d := d + 1) c
   rw [decide_eq_true hc] at h1
   have h2 := e_message_is (n := n) (d := d + 1) m.kind
   rw [decide_eq_false hk] at h2
   have hE : msgErr c m = 70 := by unfold msgErr; rw [if_pos hc, if_neg hk]
   rw [runFn_succ, hE]
   simp [T, xf_message_Check, h1, h2]
 ·have h1 := e_message_config (n := n) (d := d + 1) c
  rw [decide_eq_false hc] at h1
  have hE : msgErr c m = 1 := by unfold msgErr; rw [if_neg hc]
  rw [runFn_succ, hE]
  simp [T, xf_message_Check, h1]
end Go.Ax
namespace Go.Ax
set_option linter.all false
end Go.Ax
namespace Go.Ax
set_option linter.all false
variable {n d : Nat}
set_option maxRecDepth 10000
set_option linter.unusedSimpArgs false
set_option maxHeartbeats 4000000
end Go.Ax
namespace Go.Ax
set_option linter.all false
variable {n d : Nat}
set_option maxRecDepth 10000
set_option linter.unusedSimpArgs false
set_option maxHeartbeats 4000000
end Go.Ax
namespace Go.Ax
set_option linter.all false
variable {n d : Nat}
set_option maxRecDepth 10000
set_option linter.unusedSimpArgs false
set_option maxHeartbeats 4000000
end Go.Ax
namespace Go.Ax
set_option linter.all false
variable {n d : Nat}
set_option maxRecDepth 10000
set_option linter.unusedSimpArgs false
set_option maxHeartbeats 4000000
end Go.Ax
