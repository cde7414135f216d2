/-
  What a message may be.
-/
import Derived.Test.YtfoglingdnhjpaaGreatDoorMA
namespace Go.Ax
set_option linter.all false
variable {n d : Nat}
set_option maxRecDepth 10000
set_option maxHeartbeats 4000000
def drawNot (m : Msg) : Bool := decide (m.kind = 9) && !decide (m.vector[m.node.toNat]? = some m.draw)
def lateLog (c : Cfg) (m : Msg) : Bool := decide (m.kind = 10) && (!decide (m.log = []) && !decide (m.node = m.view.tmod (NN c)))
def restOk (c : Cfg) (m : Msg) : Bool := (!ub m.kind 6 || asksOk m.kind m.entry) && ((!ub m.kind 7 || (answersOk m.result && readsOk m)) && ((!ub m.kind 9 || decide ((m.vector.length : Int) = NN c)) && ((!ub m.kind 5 || !(decide (m.draw.hi = 0) && decide (m.draw.lo = 0))) && ((!ub m.kind 8 || decide (logErr m.log c.room = 0)) && (!drawNot m && !lateLog c m)))))
def msgOk (c : Cfg) (m : Msg) : Bool := unusedOk m && (numsOk c m && restOk c m)
def msgErr (c : Cfg) (m : Msg) : Int := if cfgOk c then (if 1 ≤ m.kind ∧ m.kind ≤ 14 then (if msgOk c m then 0 else 71) else 70) else 1
theorem msgErr_bad {c : Cfg} {m : Msg} (hc : cfgOk c) (hk : 1 ≤ m.kind ∧ m.kind ≤ 14) (h : msgOk c m = false) : msgErr c m = 71 := by
 unfold msgErr; rw [if_pos hc, if_pos hk, h]; rfl
theorem msgErr_good {c : Cfg} {m : Msg} (hc : cfgOk c) (hk : 1 ≤ m.kind ∧ m.kind ≤ 14) (h : msgOk c m = true) : msgErr c m = 0 := by
 unfold msgErr; rw [if_pos hc, if_pos hk, h]; rfl
theorem nums_node {c : Cfg} {m : Msg} (h : numsOk c m = true) : 0 ≤ m.node ∧ m.node < NN c := by
 simp [numsOk, numsBase] at h
 omega
theorem e_mCheck_1 (c : Cfg) (m : Msg) (hk : m.kind = 1) (hc : cfgOk c) (hl : m.log.length ≤ 1048577) (hn : 1048577 < n) : runFn T n (d + 3) 87 [.dat (encCfg c), .dat (encM m)] [] = some (.dat (di (msgErr c m)), []) := by
 have h1 := e_message_config (n := n) (d := d + 1) c
 rw [decide_eq_true hc] at h1
 have h2 := e_message_is (n := n) (d := d + 1) 1
 have h3 := e_message_unused (n := n) (d := d + 1) m (by omega) hn
 have h4 := e_numbers_1 (n := n) (d := d + 1) c m hk hc
 have h5 := e_message_asks (n := n) (d := d) 1 m.entry
 have h6 := e_message_answers (n := n) (d := d + 1) m.result
 have h7 := e_message_reads (n := n) (d := d + 1) m
 have h8 := e_oplog_Check (n := n) (d := d + 1) m.log c.room hl
 have w1 := wrap_small (x := 2 * c.f) (by unfold cfgOk at hc; omega)
 have w2 := wrap_small (x := 2 * c.f + 1) (by unfold cfgOk at hc; omega)
 have w3 : ¬ (2 * c.f + 1 = 0) := by unfold cfgOk at hc; omega
 have hkk : 1 ≤ m.kind ∧ m.kind ≤ 14 := by omega
 have bad := msgErr_bad hc hkk
 have good := msgErr_good hc hkk
 have node := nums_node (c := c) (m := m)
 have hd : msgOk c m = (unusedOk m && (numsOk c m && restOk c m)) := rfl
 have hr : restOk c m = ((!ub m.kind 6 || asksOk m.kind m.entry) && ((!ub m.kind 7 || (answersOk m.result && readsOk m)) && ((!ub m.kind 9 || decide ((m.vector.length : Int) = NN c)) && ((!ub m.kind 5 || !(decide (m.draw.hi = 0) && decide (m.draw.lo = 0))) && ((!ub m.kind 8 || decide (logErr m.log c.room = 0)) && (!drawNot m && !lateLog c m)))))) := rfl
 unfold drawNot lateLog NN at hr
 generalize msgErr c m = E at *
 generalize unusedOk m = B1 at *
 generalize numsOk c m = B2 at *
 generalize answersOk m.result = B4 at *
 generalize readsOk m = B5 at *
 obtain ⟨kd, nd, vw, en, rs, pl, cm, ls, dr, lg, vc⟩ := m
 simp only at hk h3 h4 h5 h6 h7 h8 node hr hl
 subst hk
 generalize asksOk 1 en = B3 at *
 generalize logErr lg c.room = LE at *
 simp only [ub_1_5, ub_1_6, ub_1_7, ub_1_8, ub_1_9] at hr
 simp at hr
 rw [runFn_succ]
 cases B1
 ·have hE : E = 71 := bad (by simp [hd])
  rw [hE]
  simp [T, xf_message_Check, h1, h2, h3, h4, h5, h6, h7, h8, w1, w2, w3, rowV_1, usesD_len]
 cases B2
 ·have hE : E = 71 := bad (by simp [hd])
  rw [hE]
  simp [T, xf_message_Check, h1, h2, h3, h4, h5, h6, h7, h8, w1, w2, w3, rowV_1, usesD_len]
 cases B3
 ·have hE : E = 71 := bad (by simp [hd, hr])
  rw [hE]
  simp [T, xf_message_Check, h1, h2, h3, h4, h5, h6, h7, h8, w1, w2, w3, rowV_1, usesD_len]
 have hE : E = 0 := good (by simp [hd, hr])
 rw [hE]
 simp [T, xf_message_Check, h1, h2, h3, h4, h5, h6, h7, h8, w1, w2, w3, rowV_1, usesD_len]
theorem e_mCheck_2 (c : Cfg) (m : Msg) (hk : m.kind = 2) (hc : cfgOk c) (hl : m.log.length ≤ 1048577) (hn : 1048577 < n) : runFn T n (d + 3) 87 [.dat (encCfg c), .dat (encM m)] [] = some (.dat (di (msgErr c m)), []) := by
 have h1 := e_message_config (n := n) (d := d + 1) c
 rw [decide_eq_true hc] at h1
 have h2 := e_message_is (n := n) (d := d + 1) 2
 have h3 := e_message_unused (n := n) (d := d + 1) m (by omega) hn
 have h4 := e_numbers_2 (n := n) (d := d + 1) c m hk hc
 have h5 := e_message_asks (n := n) (d := d) 2 m.entry
 have h6 := e_message_answers (n := n) (d := d + 1) m.result
 have h7 := e_message_reads (n := n) (d := d + 1) m
 have h8 := e_oplog_Check (n := n) (d := d + 1) m.log c.room hl
 have w1 := wrap_small (x := 2 * c.f) (by unfold cfgOk at hc; omega)
 have w2 := wrap_small (x := 2 * c.f + 1) (by unfold cfgOk at hc; omega)
 have w3 : ¬ (2 * c.f + 1 = 0) := by unfold cfgOk at hc; omega
 have hkk : 1 ≤ m.kind ∧ m.kind ≤ 14 := by omega
 have bad := msgErr_bad hc hkk
 have good := msgErr_good hc hkk
 have node := nums_node (c := c) (m := m)
 have hd : msgOk c m = (unusedOk m && (numsOk c m && restOk c m)) := rfl
 have hr : restOk c m = ((!ub m.kind 6 || asksOk m.kind m.entry) && ((!ub m.kind 7 || (answersOk m.result && readsOk m)) && ((!ub m.kind 9 || decide ((m.vector.length : Int) = NN c)) && ((!ub m.kind 5 || !(decide (m.draw.hi = 0) && decide (m.draw.lo = 0))) && ((!ub m.kind 8 || decide (logErr m.log c.room = 0)) && (!drawNot m && !lateLog c m)))))) := rfl
 unfold drawNot lateLog NN at hr
 generalize msgErr c m = E at *
 generalize unusedOk m = B1 at *
 generalize numsOk c m = B2 at *
 generalize answersOk m.result = B4 at *
 generalize readsOk m = B5 at *
 obtain ⟨kd, nd, vw, en, rs, pl, cm, ls, dr, lg, vc⟩ := m
 simp only at hk h3 h4 h5 h6 h7 h8 node hr hl
 subst hk
 generalize asksOk 2 en = B3 at *
 generalize logErr lg c.room = LE at *
 simp only [ub_2_5, ub_2_6, ub_2_7, ub_2_8, ub_2_9] at hr
 simp at hr
 rw [runFn_succ]
 cases B1
 ·have hE : E = 71 := bad (by simp [hd])
  rw [hE]
  simp [T, xf_message_Check, h1, h2, h3, h4, h5, h6, h7, h8, w1, w2, w3, rowV_2, usesD_len]
 cases B2
 ·have hE : E = 71 := bad (by simp [hd])
  rw [hE]
  simp [T, xf_message_Check, h1, h2, h3, h4, h5, h6, h7, h8, w1, w2, w3, rowV_2, usesD_len]
 cases B3
 ·have hE : E = 71 := bad (by simp [hd, hr])
  rw [hE]
  simp [T, xf_message_Check, h1, h2, h3, h4, h5, h6, h7, h8, w1, w2, w3, rowV_2, usesD_len]
 cases B4
 ·have hE : E = 71 := bad (by simp [hd, hr])
  rw [hE]
  simp [T, xf_message_Check, h1, h2, h3, h4, h5, h6, h7, h8, w1, w2, w3, rowV_2, usesD_len]
 cases B5
 ·have hE : E = 71 := bad (by simp [hd, hr])
  rw [hE]
  simp [T, xf_message_Check, h1, h2, h3, h4, h5, h6, h7, h8, w1, w2, w3, rowV_2, usesD_len]
 have hE : E = 0 := good (by simp [hd, hr])
 rw [hE]
 simp [T, xf_message_Check, h1, h2, h3, h4, h5, h6, h7, h8, w1, w2, w3, rowV_2, usesD_len]
theorem e_mCheck_3 (c : Cfg) (m : Msg) (hk : m.kind = 3) (hc : cfgOk c) (hl : m.log.length ≤ 1048577) (hn : 1048577 < n) : runFn T n (d + 3) 87 [.dat (encCfg c), .dat (encM m)] [] = some (.dat (di (msgErr c m)), []) := by
 have h1 := e_message_config (n := n) (d := d + 1) c
 rw [decide_eq_true hc] at h1
 have h2 := e_message_is (n := n) (d := d + 1) 3
 have h3 := e_message_unused (n := n) (d := d + 1) m (by omega) hn
 have h4 := e_numbers_3 (n := n) (d := d + 1) c m hk hc
 have h5 := e_message_asks (n := n) (d := d) 3 m.entry
 have h6 := e_message_answers (n := n) (d := d + 1) m.result
 have h7 := e_message_reads (n := n) (d := d + 1) m
 have h8 := e_oplog_Check (n := n) (d := d + 1) m.log c.room hl
 have w1 := wrap_small (x := 2 * c.f) (by unfold cfgOk at hc; omega)
 have w2 := wrap_small (x := 2 * c.f + 1) (by unfold cfgOk at hc; omega)
 have w3 : ¬ (2 * c.f + 1 = 0) := by unfold cfgOk at hc; omega
 have hkk : 1 ≤ m.kind ∧ m.kind ≤ 14 := by omega
 have bad := msgErr_bad hc hkk
 have good := msgErr_good hc hkk
 have node := nums_node (c := c) (m := m)
 have hd : msgOk c m = (unusedOk m && (numsOk c m && restOk c m)) := rfl
 have hr : restOk c m = ((!ub m.kind 6 || asksOk m.kind m.entry) && ((!ub m.kind 7 || (answersOk m.result && readsOk m)) && ((!ub m.kind 9 || decide ((m.vector.length : Int) = NN c)) && ((!ub m.kind 5 || !(decide (m.draw.hi = 0) && decide (m.draw.lo = 0))) && ((!ub m.kind 8 || decide (logErr m.log c.room = 0)) && (!drawNot m && !lateLog c m)))))) := rfl
 unfold drawNot lateLog NN at hr
 generalize msgErr c m = E at *
 generalize unusedOk m = B1 at *
 generalize numsOk c m = B2 at *
 generalize answersOk m.result = B4 at *
 generalize readsOk m = B5 at *
 obtain ⟨kd, nd, vw, en, rs, pl, cm, ls, dr, lg, vc⟩ := m
 simp only at hk h3 h4 h5 h6 h7 h8 node hr hl
 subst hk
 generalize asksOk 3 en = B3 at *
 generalize logErr lg c.room = LE at *
 simp only [ub_3_5, ub_3_6, ub_3_7, ub_3_8, ub_3_9] at hr
 simp at hr
 rw [runFn_succ]
 cases B1
 ·have hE : E = 71 := bad (by simp [hd])
  rw [hE]
  simp [T, xf_message_Check, h1, h2, h3, h4, h5, h6, h7, h8, w1, w2, w3, rowV_3, usesD_len]
 cases B2
 ·have hE : E = 71 := bad (by simp [hd])
  rw [hE]
  simp [T, xf_message_Check, h1, h2, h3, h4, h5, h6, h7, h8, w1, w2, w3, rowV_3, usesD_len]
 cases B3
 ·have hE : E = 71 := bad (by simp [hd, hr])
  rw [hE]
  simp [T, xf_message_Check, h1, h2, h3, h4, h5, h6, h7, h8, w1, w2, w3, rowV_3, usesD_len]
 by_cases gv : (vc.length : Int) = 2 * c.f + 1
 case neg =>
  have hE : E = 71 := bad (by simp [hd, hr, gv])
  rw [hE]
  simp [T, xf_message_Check, h1, h2, h3, h4, h5, h6, h7, h8, w1, w2, w3, rowV_3, usesD_len, gv]
 have hE : E = 0 := good (by simp [hd, hr, gv])
 rw [hE]
 simp [T, xf_message_Check, h1, h2, h3, h4, h5, h6, h7, h8, w1, w2, w3, rowV_3, usesD_len, gv]
theorem e_mCheck_4 (c : Cfg) (m : Msg) (hk : m.kind = 4) (hc : cfgOk c) (hl : m.log.length ≤ 1048577) (hn : 1048577 < n) : runFn T n (d + 3) 87 [.dat (encCfg c), .dat (encM m)] [] = some (.dat (di (msgErr c m)), []) := by
 have h1 := e_message_config (n := n) (d := d + 1) c
 rw [decide_eq_true hc] at h1
 have h2 := e_message_is (n := n) (d := d + 1) 4
 have h3 := e_message_unused (n := n) (d := d + 1) m (by omega) hn
 have h4 := e_numbers_4 (n := n) (d := d + 1) c m hk hc
 have h5 := e_message_asks (n := n) (d := d) 4 m.entry
 have h6 := e_message_answers (n := n) (d := d + 1) m.result
 have h7 := e_message_reads (n := n) (d := d + 1) m
 have h8 := e_oplog_Check (n := n) (d := d + 1) m.log c.room hl
 have w1 := wrap_small (x := 2 * c.f) (by unfold cfgOk at hc; omega)
 have w2 := wrap_small (x := 2 * c.f + 1) (by unfold cfgOk at hc; omega)
 have w3 : ¬ (2 * c.f + 1 = 0) := by unfold cfgOk at hc; omega
 have hkk : 1 ≤ m.kind ∧ m.kind ≤ 14 := by omega
 have bad := msgErr_bad hc hkk
 have good := msgErr_good hc hkk
 have node := nums_node (c := c) (m := m)
 have hd : msgOk c m = (unusedOk m && (numsOk c m && restOk c m)) := rfl
 have hr : restOk c m = ((!ub m.kind 6 || asksOk m.kind m.entry) && ((!ub m.kind 7 || (answersOk m.result && readsOk m)) && ((!ub m.kind 9 || decide ((m.vector.length : Int) = NN c)) && ((!ub m.kind 5 || !(decide (m.draw.hi = 0) && decide (m.draw.lo = 0))) && ((!ub m.kind 8 || decide (logErr m.log c.room = 0)) && (!drawNot m && !lateLog c m)))))) := rfl
 unfold drawNot lateLog NN at hr
 generalize msgErr c m = E at *
 generalize unusedOk m = B1 at *
 generalize numsOk c m = B2 at *
 generalize answersOk m.result = B4 at *
 generalize readsOk m = B5 at *
 obtain ⟨kd, nd, vw, en, rs, pl, cm, ls, dr, lg, vc⟩ := m
 simp only at hk h3 h4 h5 h6 h7 h8 node hr hl
 subst hk
 generalize asksOk 4 en = B3 at *
 generalize logErr lg c.room = LE at *
 simp only [ub_4_5, ub_4_6, ub_4_7, ub_4_8, ub_4_9] at hr
 simp at hr
 rw [runFn_succ]
 cases B1
 ·have hE : E = 71 := bad (by simp [hd])
  rw [hE]
  simp [T, xf_message_Check, h1, h2, h3, h4, h5, h6, h7, h8, w1, w2, w3, rowV_4, usesD_len]
 cases B2
 ·have hE : E = 71 := bad (by simp [hd])
  rw [hE]
  simp [T, xf_message_Check, h1, h2, h3, h4, h5, h6, h7, h8, w1, w2, w3, rowV_4, usesD_len]
 by_cases gv : (vc.length : Int) = 2 * c.f + 1
 case neg =>
  have hE : E = 71 := bad (by simp [hd, hr, gv])
  rw [hE]
  simp [T, xf_message_Check, h1, h2, h3, h4, h5, h6, h7, h8, w1, w2, w3, rowV_4, usesD_len, gv]
 have hE : E = 0 := good (by simp [hd, hr, gv])
 rw [hE]
 simp [T, xf_message_Check, h1, h2, h3, h4, h5, h6, h7, h8, w1, w2, w3, rowV_4, usesD_len, gv]
theorem e_mCheck_5 (c : Cfg) (m : Msg) (hk : m.kind = 5) (hc : cfgOk c) (hl : m.log.length ≤ 1048577) (hn : 1048577 < n) : runFn T n (d + 3) 87 [.dat (encCfg c), .dat (encM m)] [] = some (.dat (di (msgErr c m)), []) := by
 have h1 := e_message_config (n := n) (d := d + 1) c
 rw [decide_eq_true hc] at h1
 have h2 := e_message_is (n := n) (d := d + 1) 5
 have h3 := e_message_unused (n := n) (d := d + 1) m (by omega) hn
 have h4 := e_numbers_5 (n := n) (d := d + 1) c m hk hc
 have h5 := e_message_asks (n := n) (d := d) 5 m.entry
 have h6 := e_message_answers (n := n) (d := d + 1) m.result
 have h7 := e_message_reads (n := n) (d := d + 1) m
 have h8 := e_oplog_Check (n := n) (d := d + 1) m.log c.room hl
 have w1 := wrap_small (x := 2 * c.f) (by unfold cfgOk at hc; omega)
 have w2 := wrap_small (x := 2 * c.f + 1) (by unfold cfgOk at hc; omega)
 have w3 : ¬ (2 * c.f + 1 = 0) := by unfold cfgOk at hc; omega
 have hkk : 1 ≤ m.kind ∧ m.kind ≤ 14 := by omega
 have bad := msgErr_bad hc hkk
 have good := msgErr_good hc hkk
 have node := nums_node (c := c) (m := m)
 have hd : msgOk c m = (unusedOk m && (numsOk c m && restOk c m)) := rfl
 have hr : restOk c m = ((!ub m.kind 6 || asksOk m.kind m.entry) && ((!ub m.kind 7 || (answersOk m.result && readsOk m)) && ((!ub m.kind 9 || decide ((m.vector.length : Int) = NN c)) && ((!ub m.kind 5 || !(decide (m.draw.hi = 0) && decide (m.draw.lo = 0))) && ((!ub m.kind 8 || decide (logErr m.log c.room = 0)) && (!drawNot m && !lateLog c m)))))) := rfl
 unfold drawNot lateLog NN at hr
 generalize msgErr c m = E at *
 generalize unusedOk m = B1 at *
 generalize numsOk c m = B2 at *
 generalize answersOk m.result = B4 at *
 generalize readsOk m = B5 at *
 obtain ⟨kd, nd, vw, en, rs, pl, cm, ls, dr, lg, vc⟩ := m
 simp only at hk h3 h4 h5 h6 h7 h8 node hr hl
 subst hk
 generalize asksOk 5 en = B3 at *
 generalize logErr lg c.room = LE at *
 simp only [ub_5_5, ub_5_6, ub_5_7, ub_5_8, ub_5_9] at hr
 simp at hr
 rw [runFn_succ]
 cases B1
 ·have hE : E = 71 := bad (by simp [hd])
  rw [hE]
  simp [T, xf_message_Check, h1, h2, h3, h4, h5, h6, h7, h8, w1, w2, w3, rowV_5, usesD_len]
 cases B2
 ·have hE : E = 71 := bad (by simp [hd])
  rw [hE]
  simp [T, xf_message_Check, h1, h2, h3, h4, h5, h6, h7, h8, w1, w2, w3, rowV_5, usesD_len]
 by_cases gv : (vc.length : Int) = 2 * c.f + 1
 case neg =>
  have hE : E = 71 := bad (by simp [hd, hr, gv])
  rw [hE]
  simp [T, xf_message_Check, h1, h2, h3, h4, h5, h6, h7, h8, w1, w2, w3, rowV_5, usesD_len, gv]
 have hE : E = 0 := good (by simp [hd, hr, gv])
 rw [hE]
 simp [T, xf_message_Check, h1, h2, h3, h4, h5, h6, h7, h8, w1, w2, w3, rowV_5, usesD_len, gv]
theorem e_mCheck_6 (c : Cfg) (m : Msg) (hk : m.kind = 6) (hc : cfgOk c) (hl : m.log.length ≤ 1048577) (hn : 1048577 < n) : runFn T n (d + 3) 87 [.dat (encCfg c), .dat (encM m)] [] = some (.dat (di (msgErr c m)), []) := by
 have h1 := e_message_config (n := n) (d := d + 1) c
 rw [decide_eq_true hc] at h1
 have h2 := e_message_is (n := n) (d := d + 1) 6
 have h3 := e_message_unused (n := n) (d := d + 1) m (by omega) hn
 have h4 := e_numbers_6 (n := n) (d := d + 1) c m hk hc
 have h5 := e_message_asks (n := n) (d := d) 6 m.entry
 have h6 := e_message_answers (n := n) (d := d + 1) m.result
 have h7 := e_message_reads (n := n) (d := d + 1) m
 have h8 := e_oplog_Check (n := n) (d := d + 1) m.log c.room hl
 have w1 := wrap_small (x := 2 * c.f) (by unfold cfgOk at hc; omega)
 have w2 := wrap_small (x := 2 * c.f + 1) (by unfold cfgOk at hc; omega)
 have w3 : ¬ (2 * c.f + 1 = 0) := by unfold cfgOk at hc; omega
 have hkk : 1 ≤ m.kind ∧ m.kind ≤ 14 := by omega
 have bad := msgErr_bad hc hkk
 have good := msgErr_good hc hkk
 have node := nums_node (c := c) (m := m)
 have hd : msgOk c m = (unusedOk m && (numsOk c m && restOk c m)) := rfl
 have hr : restOk c m = ((!ub m.kind 6 || asksOk m.kind m.entry) && ((!ub m.kind 7 || (answersOk m.result && readsOk m)) && ((!ub m.kind 9 || decide ((m.vector.length : Int) = NN c)) && ((!ub m.kind 5 || !(decide (m.draw.hi = 0) && decide (m.draw.lo = 0))) && ((!ub m.kind 8 || decide (logErr m.log c.room = 0)) && (!drawNot m && !lateLog c m)))))) := rfl
 unfold drawNot lateLog NN at hr
 generalize msgErr c m = E at *
 generalize unusedOk m = B1 at *
 generalize numsOk c m = B2 at *
 generalize answersOk m.result = B4 at *
 generalize readsOk m = B5 at *
 obtain ⟨kd, nd, vw, en, rs, pl, cm, ls, dr, lg, vc⟩ := m
 simp only at hk h3 h4 h5 h6 h7 h8 node hr hl
 subst hk
 generalize asksOk 6 en = B3 at *
 generalize logErr lg c.room = LE at *
 simp only [ub_6_5, ub_6_6, ub_6_7, ub_6_8, ub_6_9] at hr
 simp at hr
 rw [runFn_succ]
 cases B1
 ·have hE : E = 71 := bad (by simp [hd])
  rw [hE]
  simp [T, xf_message_Check, h1, h2, h3, h4, h5, h6, h7, h8, w1, w2, w3, rowV_6, usesD_len]
 cases B2
 ·have hE : E = 71 := bad (by simp [hd])
  rw [hE]
  simp [T, xf_message_Check, h1, h2, h3, h4, h5, h6, h7, h8, w1, w2, w3, rowV_6, usesD_len]
 by_cases gv : (vc.length : Int) = 2 * c.f + 1
 case neg =>
  have hE : E = 71 := bad (by simp [hd, hr, gv])
  rw [hE]
  simp [T, xf_message_Check, h1, h2, h3, h4, h5, h6, h7, h8, w1, w2, w3, rowV_6, usesD_len, gv]
 have hE : E = 0 := good (by simp [hd, hr, gv])
 rw [hE]
 simp [T, xf_message_Check, h1, h2, h3, h4, h5, h6, h7, h8, w1, w2, w3, rowV_6, usesD_len, gv]
theorem e_mCheck_7 (c : Cfg) (m : Msg) (hk : m.kind = 7) (hc : cfgOk c) (hl : m.log.length ≤ 1048577) (hn : 1048577 < n) : runFn T n (d + 3) 87 [.dat (encCfg c), .dat (encM m)] [] = some (.dat (di (msgErr c m)), []) := by
 have h1 := e_message_config (n := n) (d := d + 1) c
 rw [decide_eq_true hc] at h1
 have h2 := e_message_is (n := n) (d := d + 1) 7
 have h3 := e_message_unused (n := n) (d := d + 1) m (by omega) hn
 have h4 := e_numbers_7 (n := n) (d := d + 1) c m hk hc
 have h5 := e_message_asks (n := n) (d := d) 7 m.entry
 have h6 := e_message_answers (n := n) (d := d + 1) m.result
 have h7 := e_message_reads (n := n) (d := d + 1) m
 have h8 := e_oplog_Check (n := n) (d := d + 1) m.log c.room hl
 have w1 := wrap_small (x := 2 * c.f) (by unfold cfgOk at hc; omega)
 have w2 := wrap_small (x := 2 * c.f + 1) (by unfold cfgOk at hc; omega)
 have w3 : ¬ (2 * c.f + 1 = 0) := by unfold cfgOk at hc; omega
 have hkk : 1 ≤ m.kind ∧ m.kind ≤ 14 := by omega
 have bad := msgErr_bad hc hkk
 have good := msgErr_good hc hkk
 have node := nums_node (c := c) (m := m)
 have hd : msgOk c m = (unusedOk m && (numsOk c m && restOk c m)) := rfl
 have hr : restOk c m = ((!ub m.kind 6 || asksOk m.kind m.entry) && ((!ub m.kind 7 || (answersOk m.result && readsOk m)) && ((!ub m.kind 9 || decide ((m.vector.length : Int) = NN c)) && ((!ub m.kind 5 || !(decide (m.draw.hi = 0) && decide (m.draw.lo = 0))) && ((!ub m.kind 8 || decide (logErr m.log c.room = 0)) && (!drawNot m && !lateLog c m)))))) := rfl
 unfold drawNot lateLog NN at hr
 generalize msgErr c m = E at *
 generalize unusedOk m = B1 at *
 generalize numsOk c m = B2 at *
 generalize answersOk m.result = B4 at *
 generalize readsOk m = B5 at *
 obtain ⟨kd, nd, vw, en, rs, pl, cm, ls, dr, lg, vc⟩ := m
 simp only at hk h3 h4 h5 h6 h7 h8 node hr hl
 subst hk
 generalize asksOk 7 en = B3 at *
 generalize logErr lg c.room = LE at *
 simp only [ub_7_5, ub_7_6, ub_7_7, ub_7_8, ub_7_9] at hr
 simp at hr
 rw [runFn_succ]
 cases B1
 ·have hE : E = 71 := bad (by simp [hd])
  rw [hE]
  simp [T, xf_message_Check, h1, h2, h3, h4, h5, h6, h7, h8, w1, w2, w3, rowV_7, usesD_len]
 cases B2
 ·have hE : E = 71 := bad (by simp [hd])
  rw [hE]
  simp [T, xf_message_Check, h1, h2, h3, h4, h5, h6, h7, h8, w1, w2, w3, rowV_7, usesD_len]
 by_cases gv : (vc.length : Int) = 2 * c.f + 1
 case neg =>
  have hE : E = 71 := bad (by simp [hd, hr, gv])
  rw [hE]
  simp [T, xf_message_Check, h1, h2, h3, h4, h5, h6, h7, h8, w1, w2, w3, rowV_7, usesD_len, gv]
 by_cases gl : LE = 0
 case neg =>
  have hE : E = 71 := bad (by simp [hd, hr, gl, gv])
  rw [hE]
  simp [T, xf_message_Check, h1, h2, h3, h4, h5, h6, h7, h8, w1, w2, w3, rowV_7, usesD_len, gl, gv]
 have hE : E = 0 := good (by simp [hd, hr, gv, gl])
 rw [hE]
 simp [T, xf_message_Check, h1, h2, h3, h4, h5, h6, h7, h8, w1, w2, w3, rowV_7, usesD_len, gv, gl]
theorem e_mCheck_8 (c : Cfg) (m : Msg) (hk : m.kind = 8) (hc : cfgOk c) (hl : m.log.length ≤ 1048577) (hn : 1048577 < n) : runFn T n (d + 3) 87 [.dat (encCfg c), .dat (encM m)] [] = some (.dat (di (msgErr c m)), []) := by
 have h1 := e_message_config (n := n) (d := d + 1) c
 rw [decide_eq_true hc] at h1
 have h2 := e_message_is (n := n) (d := d + 1) 8
 have h3 := e_message_unused (n := n) (d := d + 1) m (by omega) hn
 have h4 := e_numbers_8 (n := n) (d := d + 1) c m hk hc
 have h5 := e_message_asks (n := n) (d := d) 8 m.entry
 have h6 := e_message_answers (n := n) (d := d + 1) m.result
 have h7 := e_message_reads (n := n) (d := d + 1) m
 have h8 := e_oplog_Check (n := n) (d := d + 1) m.log c.room hl
 have w1 := wrap_small (x := 2 * c.f) (by unfold cfgOk at hc; omega)
 have w2 := wrap_small (x := 2 * c.f + 1) (by unfold cfgOk at hc; omega)
 have w3 : ¬ (2 * c.f + 1 = 0) := by unfold cfgOk at hc; omega
 have hkk : 1 ≤ m.kind ∧ m.kind ≤ 14 := by omega
 have bad := msgErr_bad hc hkk
 have good := msgErr_good hc hkk
 have node := nums_node (c := c) (m := m)
 have hd : msgOk c m = (unusedOk m && (numsOk c m && restOk c m)) := rfl
 have hr : restOk c m = ((!ub m.kind 6 || asksOk m.kind m.entry) && ((!ub m.kind 7 || (answersOk m.result && readsOk m)) && ((!ub m.kind 9 || decide ((m.vector.length : Int) = NN c)) && ((!ub m.kind 5 || !(decide (m.draw.hi = 0) && decide (m.draw.lo = 0))) && ((!ub m.kind 8 || decide (logErr m.log c.room = 0)) && (!drawNot m && !lateLog c m)))))) := rfl
 unfold drawNot lateLog NN at hr
 generalize msgErr c m = E at *
 generalize unusedOk m = B1 at *
 generalize numsOk c m = B2 at *
 generalize answersOk m.result = B4 at *
 generalize readsOk m = B5 at *
 obtain ⟨kd, nd, vw, en, rs, pl, cm, ls, dr, lg, vc⟩ := m
 simp only at hk h3 h4 h5 h6 h7 h8 node hr hl
 subst hk
 generalize asksOk 8 en = B3 at *
 generalize logErr lg c.room = LE at *
 simp only [ub_8_5, ub_8_6, ub_8_7, ub_8_8, ub_8_9] at hr
 simp at hr
 rw [runFn_succ]
 cases B1
 ·have hE : E = 71 := bad (by simp [hd])
  rw [hE]
  simp [T, xf_message_Check, h1, h2, h3, h4, h5, h6, h7, h8, w1, w2, w3, rowV_8, usesD_len]
 cases B2
 ·have hE : E = 71 := bad (by simp [hd])
  rw [hE]
  simp [T, xf_message_Check, h1, h2, h3, h4, h5, h6, h7, h8, w1, w2, w3, rowV_8, usesD_len]
 by_cases gv : (vc.length : Int) = 2 * c.f + 1
 case neg =>
  have hE : E = 71 := bad (by simp [hd, hr, gv])
  rw [hE]
  simp [T, xf_message_Check, h1, h2, h3, h4, h5, h6, h7, h8, w1, w2, w3, rowV_8, usesD_len, gv]
 by_cases gl : LE = 0
 case neg =>
  have hE : E = 71 := bad (by simp [hd, hr, gl, gv])
  rw [hE]
  simp [T, xf_message_Check, h1, h2, h3, h4, h5, h6, h7, h8, w1, w2, w3, rowV_8, usesD_len, gl, gv]
 have hE : E = 0 := good (by simp [hd, hr, gv, gl])
 rw [hE]
 simp [T, xf_message_Check, h1, h2, h3, h4, h5, h6, h7, h8, w1, w2, w3, rowV_8, usesD_len, gv, gl]
theorem e_mCheck_9 (c : Cfg) (m : Msg) (hk : m.kind = 9) (hc : cfgOk c) (hl : m.log.length ≤ 1048577) (hn : 1048577 < n) : runFn T n (d + 3) 87 [.dat (encCfg c), .dat (encM m)] [] = some (.dat (di (msgErr c m)), []) := by
 have h1 := e_message_config (n := n) (d := d + 1) c
 rw [decide_eq_true hc] at h1
 have h2 := e_message_is (n := n) (d := d + 1) 9
 have h3 := e_message_unused (n := n) (d := d + 1) m (by omega) hn
 have h4 := e_numbers_9 (n := n) (d := d + 1) c m hk hc
 have h5 := e_message_asks (n := n) (d := d) 9 m.entry
 have h6 := e_message_answers (n := n) (d := d + 1) m.result
 have h7 := e_message_reads (n := n) (d := d + 1) m
 have h8 := e_oplog_Check (n := n) (d := d + 1) m.log c.room hl
 have w1 := wrap_small (x := 2 * c.f) (by unfold cfgOk at hc; omega)
 have w2 := wrap_small (x := 2 * c.f + 1) (by unfold cfgOk at hc; omega)
 have w3 : ¬ (2 * c.f + 1 = 0) := by unfold cfgOk at hc; omega
 have hkk : 1 ≤ m.kind ∧ m.kind ≤ 14 := by omega
 have bad := msgErr_bad hc hkk
 have good := msgErr_good hc hkk
 have node := nums_node (c := c) (m := m)
 have hd : msgOk c m = (unusedOk m && (numsOk c m && restOk c m)) := rfl
 have hr : restOk c m = ((!ub m.kind 6 || asksOk m.kind m.entry) && ((!ub m.kind 7 || (answersOk m.result && readsOk m)) && ((!ub m.kind 9 || decide ((m.vector.length : Int) = NN c)) && ((!ub m.kind 5 || !(decide (m.draw.hi = 0) && decide (m.draw.lo = 0))) && ((!ub m.kind 8 || decide (logErr m.log c.room = 0)) && (!drawNot m && !lateLog c m)))))) := rfl
 unfold drawNot lateLog NN at hr
 generalize msgErr c m = E at *
 generalize unusedOk m = B1 at *
 generalize numsOk c m = B2 at *
 generalize answersOk m.result = B4 at *
 generalize readsOk m = B5 at *
 obtain ⟨kd, nd, vw, en, rs, pl, cm, ls, dr, lg, vc⟩ := m
 simp only at hk h3 h4 h5 h6 h7 h8 node hr hl
 subst hk
 generalize asksOk 9 en = B3 at *
 generalize logErr lg c.room = LE at *
 simp only [ub_9_5, ub_9_6, ub_9_7, ub_9_8, ub_9_9] at hr
 simp at hr
 rw [runFn_succ]
 cases B1
 ·have hE : E = 71 := bad (by simp [hd])
  rw [hE]
  simp [T, xf_message_Check, h1, h2, h3, h4, h5, h6, h7, h8, w1, w2, w3, rowV_9, usesD_len]
 cases B2
 ·have hE : E = 71 := bad (by simp [hd])
  rw [hE]
  simp [T, xf_message_Check, h1, h2, h3, h4, h5, h6, h7, h8, w1, w2, w3, rowV_9, usesD_len]
 by_cases gv : (vc.length : Int) = 2 * c.f + 1
 case neg =>
  have hE : E = 71 := bad (by simp [hd, hr, gv])
  rw [hE]
  simp [T, xf_message_Check, h1, h2, h3, h4, h5, h6, h7, h8, w1, w2, w3, rowV_9, usesD_len, gv]
 by_cases gd : dr.hi = 0 ∧ dr.lo = 0
 ·have gd1 := eq_true gd.1
  have gd2 := eq_true gd.2
  have hE : E = 71 := bad (by simp [hd, hr, gd1, gd2, gv])
  rw [hE]
  simp [T, xf_message_Check, h1, h2, h3, h4, h5, h6, h7, h8, w1, w2, w3, rowV_9, usesD_len, gd1, gd2, gv]
 have gd3 : (!decide (dr.hi = 0) || !decide (dr.lo = 0)) = true := by
  by_cases q1 : dr.hi = 0
  ·have q2 : ¬ dr.lo = 0 := fun q2 => gd ⟨q1, q2⟩
   simp [q2]
  ·simp [q1]
 have hnd := node rfl
 have hlt : nd.toNat < vc.length := by simp only [NN] at hnd; omega
 have hlt2 : nd < vc.length := by omega
 rw [List.getElem?_eq_getElem hlt] at hr
 by_cases gx : vc[nd.toNat] = dr
 ·have hE : E = 0 := good (by simp [hd, hr, gx, gv, gd, gd3])
  rw [hE]
  simp [T, xf_message_Check, h1, h2, h3, h4, h5, h6, h7, h8, w1, w2, w3, rowV_9, usesD_len, gx, hnd, hlt, hlt2, gv, gd, gd3]
 ·have gx2 : ¬ (vc[nd.toNat].hi = dr.hi ∧ vc[nd.toNat].lo = dr.lo) := by
   intro h
   apply gx
   cases hv : vc[nd.toNat]
   cases dr
   simp [hv] at h
   simp [h]
  have gx3 : ¬ vc[nd.toNat].hi = dr.hi ∨ ¬ vc[nd.toNat].lo = dr.lo := by
   by_cases q : vc[nd.toNat].hi = dr.hi
   ·exact .inr fun q2 => gx2 ⟨q, q2⟩
   ·exact .inl q
  have hE : E = 71 := bad (by simp [hd, hr, gx, gv, gd, gd3])
  rw [hE]
  simp [T, xf_message_Check, h1, h2, h3, h4, h5, h6, h7, h8, w1, w2, w3, rowV_9, usesD_len, gx2, gx3, hnd, hlt, hlt2, gv, gd, gd3]
theorem e_mCheck_10 (c : Cfg) (m : Msg) (hk : m.kind = 10) (hc : cfgOk c) (hl : m.log.length ≤ 1048577) (hn : 1048577 < n) : runFn T n (d + 3) 87 [.dat (encCfg c), .dat (encM m)] [] = some (.dat (di (msgErr c m)), []) := by
 have h1 := e_message_config (n := n) (d := d + 1) c
 rw [decide_eq_true hc] at h1
 have h2 := e_message_is (n := n) (d := d + 1) 10
 have h3 := e_message_unused (n := n) (d := d + 1) m (by omega) hn
 have h4 := e_numbers_10 (n := n) (d := d + 1) c m hk hc
 have h5 := e_message_asks (n := n) (d := d) 10 m.entry
 have h6 := e_message_answers (n := n) (d := d + 1) m.result
 have h7 := e_message_reads (n := n) (d := d + 1) m
 have h8 := e_oplog_Check (n := n) (d := d + 1) m.log c.room hl
 have w1 := wrap_small (x := 2 * c.f) (by unfold cfgOk at hc; omega)
 have w2 := wrap_small (x := 2 * c.f + 1) (by unfold cfgOk at hc; omega)
 have w3 : ¬ (2 * c.f + 1 = 0) := by unfold cfgOk at hc; omega
 have hkk : 1 ≤ m.kind ∧ m.kind ≤ 14 := by omega
 have bad := msgErr_bad hc hkk
 have good := msgErr_good hc hkk
 have node := nums_node (c := c) (m := m)
 have hd : msgOk c m = (unusedOk m && (numsOk c m && restOk c m)) := rfl
 have hr : restOk c m = ((!ub m.kind 6 || asksOk m.kind m.entry) && ((!ub m.kind 7 || (answersOk m.result && readsOk m)) && ((!ub m.kind 9 || decide ((m.vector.length : Int) = NN c)) && ((!ub m.kind 5 || !(decide (m.draw.hi = 0) && decide (m.draw.lo = 0))) && ((!ub m.kind 8 || decide (logErr m.log c.room = 0)) && (!drawNot m && !lateLog c m)))))) := rfl
 unfold drawNot lateLog NN at hr
 generalize msgErr c m = E at *
 generalize unusedOk m = B1 at *
 generalize numsOk c m = B2 at *
 generalize answersOk m.result = B4 at *
 generalize readsOk m = B5 at *
 obtain ⟨kd, nd, vw, en, rs, pl, cm, ls, dr, lg, vc⟩ := m
 simp only at hk h3 h4 h5 h6 h7 h8 node hr hl
 subst hk
 generalize asksOk 10 en = B3 at *
 generalize logErr lg c.room = LE at *
 simp only [ub_10_5, ub_10_6, ub_10_7, ub_10_8, ub_10_9] at hr
 simp at hr
 rw [runFn_succ]
 cases B1
 ·have hE : E = 71 := bad (by simp [hd])
  rw [hE]
  simp [T, xf_message_Check, h1, h2, h3, h4, h5, h6, h7, h8, w1, w2, w3, rowV_10, usesD_len]
 cases B2
 ·have hE : E = 71 := bad (by simp [hd])
  rw [hE]
  simp [T, xf_message_Check, h1, h2, h3, h4, h5, h6, h7, h8, w1, w2, w3, rowV_10, usesD_len]
 by_cases gv : (vc.length : Int) = 2 * c.f + 1
 case neg =>
  have hE : E = 71 := bad (by simp [hd, hr, gv])
  rw [hE]
  simp [T, xf_message_Check, h1, h2, h3, h4, h5, h6, h7, h8, w1, w2, w3, rowV_10, usesD_len, gv]
 by_cases gd : dr.hi = 0 ∧ dr.lo = 0
 ·have gd1 := eq_true gd.1
  have gd2 := eq_true gd.2
  have hE : E = 71 := bad (by simp [hd, hr, gd1, gd2, gv])
  rw [hE]
  simp [T, xf_message_Check, h1, h2, h3, h4, h5, h6, h7, h8, w1, w2, w3, rowV_10, usesD_len, gd1, gd2, gv]
 have gd3 : (!decide (dr.hi = 0) || !decide (dr.lo = 0)) = true := by
  by_cases q1 : dr.hi = 0
  ·have q2 : ¬ dr.lo = 0 := fun q2 => gd ⟨q1, q2⟩
   simp [q2]
  ·simp [q1]
 by_cases gl : LE = 0
 case neg =>
  have hE : E = 71 := bad (by simp [hd, hr, gl, gv, gd, gd3])
  rw [hE]
  simp [T, xf_message_Check, h1, h2, h3, h4, h5, h6, h7, h8, w1, w2, w3, rowV_10, usesD_len, gl, gv, gd, gd3]
 by_cases gx : lg = []
 ·have gx1 := eq_true gx
  have gx' : ¬ 0 < lg.length := by simp [gx]
  have hE : E = 0 := good (by simp [hd, hr, gx1, gv, gd, gd3, gl])
  rw [hE]
  simp [T, xf_message_Check, h1, h2, h3, h4, h5, h6, h7, h8, w1, w2, w3, rowV_10, usesD_len, gx1, gx', gv, gd, gd3, gl]
 ·have gx' : 0 < lg.length := List.length_pos_iff.2 gx
  by_cases gy : nd = vw.tmod (2 * c.f + 1)
  ·have gy1 := eq_true gy
   have hE : E = 0 := good (by simp [hd, hr, gx, gy1, gv, gd, gd3, gl])
   rw [hE]
   simp [T, xf_message_Check, h1, h2, h3, h4, h5, h6, h7, h8, w1, w2, w3, rowV_10, usesD_len, gx, gx', gy1, gv, gd, gd3, gl]
  ·have hE : E = 71 := bad (by simp [hd, hr, gx, gy, gv, gd, gd3, gl])
   rw [hE]
   simp [T, xf_message_Check, h1, h2, h3, h4, h5, h6, h7, h8, w1, w2, w3, rowV_10, usesD_len, gx, gx', gy, gv, gd, gd3, gl]
theorem e_mCheck_11 (c : Cfg) (m : Msg) (hk : m.kind = 11) (hc : cfgOk c) (hl : m.log.length ≤ 1048577) (hn : 1048577 < n) : runFn T n (d + 3) 87 [.dat (encCfg c), .dat (encM m)] [] = some (.dat (di (msgErr c m)), []) := by
 have h1 := e_message_config (n := n) (d := d + 1) c
 rw [decide_eq_true hc] at h1
 have h2 := e_message_is (n := n) (d := d + 1) 11
 have h3 := e_message_unused (n := n) (d := d + 1) m (by omega) hn
 have h4 := e_numbers_11 (n := n) (d := d + 1) c m hk hc
 have h5 := e_message_asks (n := n) (d := d) 11 m.entry
 have h6 := e_message_answers (n := n) (d := d + 1) m.result
 have h7 := e_message_reads (n := n) (d := d + 1) m
 have h8 := e_oplog_Check (n := n) (d := d + 1) m.log c.room hl
 have w1 := wrap_small (x := 2 * c.f) (by unfold cfgOk at hc; omega)
 have w2 := wrap_small (x := 2 * c.f + 1) (by unfold cfgOk at hc; omega)
 have w3 : ¬ (2 * c.f + 1 = 0) := by unfold cfgOk at hc; omega
 have hkk : 1 ≤ m.kind ∧ m.kind ≤ 14 := by omega
 have bad := msgErr_bad hc hkk
 have good := msgErr_good hc hkk
 have node := nums_node (c := c) (m := m)
 have hd : msgOk c m = (unusedOk m && (numsOk c m && restOk c m)) := rfl
 have hr : restOk c m = ((!ub m.kind 6 || asksOk m.kind m.entry) && ((!ub m.kind 7 || (answersOk m.result && readsOk m)) && ((!ub m.kind 9 || decide ((m.vector.length : Int) = NN c)) && ((!ub m.kind 5 || !(decide (m.draw.hi = 0) && decide (m.draw.lo = 0))) && ((!ub m.kind 8 || decide (logErr m.log c.room = 0)) && (!drawNot m && !lateLog c m)))))) := rfl
 unfold drawNot lateLog NN at hr
 generalize msgErr c m = E at *
 generalize unusedOk m = B1 at *
 generalize numsOk c m = B2 at *
 generalize answersOk m.result = B4 at *
 generalize readsOk m = B5 at *
 obtain ⟨kd, nd, vw, en, rs, pl, cm, ls, dr, lg, vc⟩ := m
 simp only at hk h3 h4 h5 h6 h7 h8 node hr hl
 subst hk
 generalize asksOk 11 en = B3 at *
 generalize logErr lg c.room = LE at *
 simp only [ub_11_5, ub_11_6, ub_11_7, ub_11_8, ub_11_9] at hr
 simp at hr
 rw [runFn_succ]
 cases B1
 ·have hE : E = 71 := bad (by simp [hd])
  rw [hE]
  simp [T, xf_message_Check, h1, h2, h3, h4, h5, h6, h7, h8, w1, w2, w3, rowV_11, usesD_len]
 cases B2
 ·have hE : E = 71 := bad (by simp [hd])
  rw [hE]
  simp [T, xf_message_Check, h1, h2, h3, h4, h5, h6, h7, h8, w1, w2, w3, rowV_11, usesD_len]
 by_cases gv : (vc.length : Int) = 2 * c.f + 1
 case neg =>
  have hE : E = 71 := bad (by simp [hd, hr, gv])
  rw [hE]
  simp [T, xf_message_Check, h1, h2, h3, h4, h5, h6, h7, h8, w1, w2, w3, rowV_11, usesD_len, gv]
 have hE : E = 0 := good (by simp [hd, hr, gv])
 rw [hE]
 simp [T, xf_message_Check, h1, h2, h3, h4, h5, h6, h7, h8, w1, w2, w3, rowV_11, usesD_len, gv]
theorem e_mCheck_12 (c : Cfg) (m : Msg) (hk : m.kind = 12) (hc : cfgOk c) (hl : m.log.length ≤ 1048577) (hn : 1048577 < n) : runFn T n (d + 3) 87 [.dat (encCfg c), .dat (encM m)] [] = some (.dat (di (msgErr c m)), []) := by
 have h1 := e_message_config (n := n) (d := d + 1) c
 rw [decide_eq_true hc] at h1
 have h2 := e_message_is (n := n) (d := d + 1) 12
 have h3 := e_message_unused (n := n) (d := d + 1) m (by omega) hn
 have h4 := e_numbers_12 (n := n) (d := d + 1) c m hk hc
 have h5 := e_message_asks (n := n) (d := d) 12 m.entry
 have h6 := e_message_answers (n := n) (d := d + 1) m.result
 have h7 := e_message_reads (n := n) (d := d + 1) m
 have h8 := e_oplog_Check (n := n) (d := d + 1) m.log c.room hl
 have w1 := wrap_small (x := 2 * c.f) (by unfold cfgOk at hc; omega)
 have w2 := wrap_small (x := 2 * c.f + 1) (by unfold cfgOk at hc; omega)
 have w3 : ¬ (2 * c.f + 1 = 0) := by unfold cfgOk at hc; omega
 have hkk : 1 ≤ m.kind ∧ m.kind ≤ 14 := by omega
 have bad := msgErr_bad hc hkk
 have good := msgErr_good hc hkk
 have node := nums_node (c := c) (m := m)
 have hd : msgOk c m = (unusedOk m && (numsOk c m && restOk c m)) := rfl
 have hr : restOk c m = ((!ub m.kind 6 || asksOk m.kind m.entry) && ((!ub m.kind 7 || (answersOk m.result && readsOk m)) && ((!ub m.kind 9 || decide ((m.vector.length : Int) = NN c)) && ((!ub m.kind 5 || !(decide (m.draw.hi = 0) && decide (m.draw.lo = 0))) && ((!ub m.kind 8 || decide (logErr m.log c.room = 0)) && (!drawNot m && !lateLog c m)))))) := rfl
 unfold drawNot lateLog NN at hr
 generalize msgErr c m = E at *
 generalize unusedOk m = B1 at *
 generalize numsOk c m = B2 at *
 generalize answersOk m.result = B4 at *
 generalize readsOk m = B5 at *
 obtain ⟨kd, nd, vw, en, rs, pl, cm, ls, dr, lg, vc⟩ := m
 simp only at hk h3 h4 h5 h6 h7 h8 node hr hl
 subst hk
 generalize asksOk 12 en = B3 at *
 generalize logErr lg c.room = LE at *
 simp only [ub_12_5, ub_12_6, ub_12_7, ub_12_8, ub_12_9] at hr
 simp at hr
 rw [runFn_succ]
 cases B1
 ·have hE : E = 71 := bad (by simp [hd])
  rw [hE]
  simp [T, xf_message_Check, h1, h2, h3, h4, h5, h6, h7, h8, w1, w2, w3, rowV_12, usesD_len]
 cases B2
 ·have hE : E = 71 := bad (by simp [hd])
  rw [hE]
  simp [T, xf_message_Check, h1, h2, h3, h4, h5, h6, h7, h8, w1, w2, w3, rowV_12, usesD_len]
 by_cases gv : (vc.length : Int) = 2 * c.f + 1
 case neg =>
  have hE : E = 71 := bad (by simp [hd, hr, gv])
  rw [hE]
  simp [T, xf_message_Check, h1, h2, h3, h4, h5, h6, h7, h8, w1, w2, w3, rowV_12, usesD_len, gv]
 by_cases gl : LE = 0
 case neg =>
  have hE : E = 71 := bad (by simp [hd, hr, gl, gv])
  rw [hE]
  simp [T, xf_message_Check, h1, h2, h3, h4, h5, h6, h7, h8, w1, w2, w3, rowV_12, usesD_len, gl, gv]
 have hE : E = 0 := good (by simp [hd, hr, gv, gl])
 rw [hE]
 simp [T, xf_message_Check, h1, h2, h3, h4, h5, h6, h7, h8, w1, w2, w3, rowV_12, usesD_len, gv, gl]
theorem e_mCheck_13 (c : Cfg) (m : Msg) (hk : m.kind = 13) (hc : cfgOk c) (hl : m.log.length ≤ 1048577) (hn : 1048577 < n) : runFn T n (d + 3) 87 [.dat (encCfg c), .dat (encM m)] [] = some (.dat (di (msgErr c m)), []) := by
 have h1 := e_message_config (n := n) (d := d + 1) c
 rw [decide_eq_true hc] at h1
 have h2 := e_message_is (n := n) (d := d + 1) 13
 have h3 := e_message_unused (n := n) (d := d + 1) m (by omega) hn
 have h4 := e_numbers_13 (n := n) (d := d + 1) c m hk hc
 have h5 := e_message_asks (n := n) (d := d) 13 m.entry
 have h6 := e_message_answers (n := n) (d := d + 1) m.result
 have h7 := e_message_reads (n := n) (d := d + 1) m
 have h8 := e_oplog_Check (n := n) (d := d + 1) m.log c.room hl
 have w1 := wrap_small (x := 2 * c.f) (by unfold cfgOk at hc; omega)
 have w2 := wrap_small (x := 2 * c.f + 1) (by unfold cfgOk at hc; omega)
 have w3 : ¬ (2 * c.f + 1 = 0) := by unfold cfgOk at hc; omega
 have hkk : 1 ≤ m.kind ∧ m.kind ≤ 14 := by omega
 have bad := msgErr_bad hc hkk
 have good := msgErr_good hc hkk
 have node := nums_node (c := c) (m := m)
 have hd : msgOk c m = (unusedOk m && (numsOk c m && restOk c m)) := rfl
 have hr : restOk c m = ((!ub m.kind 6 || asksOk m.kind m.entry) && ((!ub m.kind 7 || (answersOk m.result && readsOk m)) && ((!ub m.kind 9 || decide ((m.vector.length : Int) = NN c)) && ((!ub m.kind 5 || !(decide (m.draw.hi = 0) && decide (m.draw.lo = 0))) && ((!ub m.kind 8 || decide (logErr m.log c.room = 0)) && (!drawNot m && !lateLog c m)))))) := rfl
 unfold drawNot lateLog NN at hr
 generalize msgErr c m = E at *
 generalize unusedOk m = B1 at *
 generalize numsOk c m = B2 at *
 generalize answersOk m.result = B4 at *
 generalize readsOk m = B5 at *
 obtain ⟨kd, nd, vw, en, rs, pl, cm, ls, dr, lg, vc⟩ := m
 simp only at hk h3 h4 h5 h6 h7 h8 node hr hl
 subst hk
 generalize asksOk 13 en = B3 at *
 generalize logErr lg c.room = LE at *
 simp only [ub_13_5, ub_13_6, ub_13_7, ub_13_8, ub_13_9] at hr
 simp at hr
 rw [runFn_succ]
 cases B1
 ·have hE : E = 71 := bad (by simp [hd])
  rw [hE]
  simp [T, xf_message_Check, h1, h2, h3, h4, h5, h6, h7, h8, w1, w2, w3, rowV_13, usesD_len]
 cases B2
 ·have hE : E = 71 := bad (by simp [hd])
  rw [hE]
  simp [T, xf_message_Check, h1, h2, h3, h4, h5, h6, h7, h8, w1, w2, w3, rowV_13, usesD_len]
 cases B3
 ·have hE : E = 71 := bad (by simp [hd, hr])
  rw [hE]
  simp [T, xf_message_Check, h1, h2, h3, h4, h5, h6, h7, h8, w1, w2, w3, rowV_13, usesD_len]
 have hE : E = 0 := good (by simp [hd, hr])
 rw [hE]
 simp [T, xf_message_Check, h1, h2, h3, h4, h5, h6, h7, h8, w1, w2, w3, rowV_13, usesD_len]
theorem e_mCheck_14 (c : Cfg) (m : Msg) (hk : m.kind = 14) (hc : cfgOk c) (hl : m.log.length ≤ 1048577) (hn : 1048577 < n) : runFn T n (d + 3) 87 [.dat (encCfg c), .dat (encM m)] [] = some (.dat (di (msgErr c m)), []) := by
 have h1 := e_message_config (n := n) (d := d + 1) c
 rw [decide_eq_true hc] at h1
 have h2 := e_message_is (n := n) (d := d + 1) 14
 have h3 := e_message_unused (n := n) (d := d + 1) m (by omega) hn
 have h4 := e_numbers_14 (n := n) (d := d + 1) c m hk hc
 have h5 := e_message_asks (n := n) (d := d) 14 m.entry
 have h6 := e_message_answers (n := n) (d := d + 1) m.result
 have h7 := e_message_reads (n := n) (d := d + 1) m
 have h8 := e_oplog_Check (n := n) (d := d + 1) m.log c.room hl
 have w1 := wrap_small (x := 2 * c.f) (by unfold cfgOk at hc; omega)
 have w2 := wrap_small (x := 2 * c.f + 1) (by unfold cfgOk at hc; omega)
 have w3 : ¬ (2 * c.f + 1 = 0) := by unfold cfgOk at hc; omega
 have hkk : 1 ≤ m.kind ∧ m.kind ≤ 14 := by omega
 have bad := msgErr_bad hc hkk
 have good := msgErr_good hc hkk
 have node := nums_node (c := c) (m := m)
 have hd : msgOk c m = (unusedOk m && (numsOk c m && restOk c m)) := rfl
 have hr : restOk c m = ((!ub m.kind 6 || asksOk m.kind m.entry) && ((!ub m.kind 7 || (answersOk m.result && readsOk m)) && ((!ub m.kind 9 || decide ((m.vector.length : Int) = NN c)) && ((!ub m.kind 5 || !(decide (m.draw.hi = 0) && decide (m.draw.lo = 0))) && ((!ub m.kind 8 || decide (logErr m.log c.room = 0)) && (!drawNot m && !lateLog c m)))))) := rfl
 unfold drawNot lateLog NN at hr
 generalize msgErr c m = E at *
 generalize unusedOk m = B1 at *
 generalize numsOk c m = B2 at *
 generalize answersOk m.result = B4 at *
 generalize readsOk m = B5 at *
 obtain ⟨kd, nd, vw, en, rs, pl, cm, ls, dr, lg, vc⟩ := m
 simp only at hk h3 h4 h5 h6 h7 h8 node hr hl
 subst hk
 generalize asksOk 14 en = B3 at *
 generalize logErr lg c.room = LE at *
 simp only [ub_14_5, ub_14_6, ub_14_7, ub_14_8, ub_14_9] at hr
 simp at hr
 rw [runFn_succ]
 cases B1
 ·have hE : E = 71 := bad (by simp [hd])
  rw [hE]
  simp [T, xf_message_Check, h1, h2, h3, h4, h5, h6, h7, h8, w1, w2, w3, rowV_14, usesD_len]
 cases B2
 ·have hE : E = 71 := bad (by simp [hd])
  rw [hE]
  simp [T, xf_message_Check, h1, h2, h3, h4, h5, h6, h7, h8, w1, w2, w3, rowV_14, usesD_len]
 cases B3
 ·have hE : E = 71 := bad (by simp [hd, hr])
  rw [hE]
  simp [T, xf_message_Check, h1, h2, h3, h4, h5, h6, h7, h8, w1, w2, w3, rowV_14, usesD_len]
 cases B4
 ·have hE : E = 71 := bad (by simp [hd, hr])
  rw [hE]
  simp [T, xf_message_Check, h1, h2, h3, h4, h5, h6, h7, h8, w1, w2, w3, rowV_14, usesD_len]
 cases B5
 ·have hE : E = 71 := bad (by simp [hd, hr])
  rw [hE]
  simp [T, xf_message_Check, h1, h2, h3, h4, h5, h6, h7, h8, w1, w2, w3, rowV_14, usesD_len]
 have hE : E = 0 := good (by simp [hd, hr])
 rw [hE]
 simp [T, xf_message_Check, h1, h2, h3, h4, h5, h6, h7, h8, w1, w2, w3, rowV_14, usesD_len]
theorem e_message_Check (c : Cfg) (m : Msg) (hl : m.log.length ≤ 1048577) (hn : 1048577 < n) : runFn T n (d + 3) 87 [.dat (encCfg c), .dat (encM m)] [] = some (.dat (di (msgErr c m)), []) := by
 by_cases hc : cfgOk c
 ·by_cases hk : 1 ≤ m.kind ∧ m.kind ≤ 14
  ·rcases kind_cases hk with h | h | h | h | h | h | h | h | h | h | h | h | h | h
   ·exact e_mCheck_1 c m h hc hl hn
   ·exact e_mCheck_2 c m h hc hl hn
   ·exact e_mCheck_3 c m h hc hl hn
   ·exact e_mCheck_4 c m h hc hl hn
   ·exact e_mCheck_5 c m h hc hl hn
   ·exact e_mCheck_6 c m h hc hl hn
   ·exact e_mCheck_7 c m h hc hl hn
   ·exact e_mCheck_8 c m h hc hl hn
   ·exact e_mCheck_9 c m h hc hl hn
   ·exact e_mCheck_10 c m h hc hl hn
   ·exact e_mCheck_11 c m h hc hl hn
   ·exact e_mCheck_12 c m h hc hl hn
   ·exact e_mCheck_13 c m h hc hl hn
   ·exact e_mCheck_14 c m h hc hl hn
  ·have h1 := e_message_config (n := n) (d := d + 1) c
   rw [decide_eq_true hc] at h1
   have h2 := e_message_is (n := n) (d := d + 1) m.kind
   rw [decide_eq_false hk] at h2
   have hE : msgErr c m = 70 := by unfold msgErr; rw [if_pos hc, if_neg hk]
   rw [runFn_succ, hE]
   simp [T, xf_message_Check, h1, h2]
 ·have h1 := e_message_config (n := n) (d := d + 1) c
  rw [decide_eq_false hc] at h1
  have hE : msgErr c m = 1 := by unfold msgErr; rw [if_neg hc]
  rw [runFn_succ, hE]
  simp [T, xf_message_Check, h1]
end Go.Ax
namespace Go.Ax
set_option linter.all false
theorem logErr_ref (l : List Ent) (room : Int) (h : 1 ≤ room ∧ room ≤ 256) : (if room < l.length then 60 else logErr1 [] l) = logErr l room := by
 have h2 : ¬ (room < 1 ∨ 256 < room) := by omega
 simp only [logErr, if_neg h2]
theorem logErr_len {l : List Ent} {room : Int} (h : logErr l room = 0) : (l.length : Int) ≤ room := by
 unfold logErr at h
 split at h
 ·cases h
 ·split at h
  ·cases h
  ·omega
end Go.Ax
namespace Go.Ax
set_option linter.all false
variable {n d : Nat}
set_option maxRecDepth 10000
set_option maxHeartbeats 4000000
theorem e_fields_1 (c : Cfg) (m : Msg) (hk : m.kind = 1) (hc : cfgOk c) (hl : m.log.length ≤ 1048577) (hn : 1048577 < n) (hu : unusedOk m = true) : runFn T n (d + 4) 67 [.dat (encCfg c), .dat (encM m), .dat (di 1), .dat (encBs (rowL 1))] [] = some (.dat (.bool (numsOk c m && restOk c m)), []) := by
 have h5 := e_ref07_entry (n := n) (d := d) 1 m.entry
 have h6 := e_ref07_result (n := n) (d := d + 2) m.result
 have h8 := e_ref05_Log (n := n) (d := d) m.log c.room hl hn
 rw [logErr_ref m.log c.room (by unfold cfgOk at hc; omega)] at h8
 have w1 := wrap_small (x := 2 * c.f) (by unfold cfgOk at hc; omega)
 have w2 := wrap_small (x := 2 * c.f + 1) (by unfold cfgOk at hc; omega)
 have w3 : ¬ (2 * c.f + 1 = 0) := by unfold cfgOk at hc; omega
 have hc2 : 1 ≤ c.f ∧ c.f ≤ 3 ∧ 1 ≤ c.room ∧ c.room ≤ 256 := by unfold cfgOk at hc; omega
 have hle : logErr m.log c.room = 0 → (m.log.length : Int) ≤ c.room := logErr_len
 unfold restOk drawNot lateLog numsOk numsTail numsBase numsEnd NN readsOk
 unfold unusedOk pairs pairsM pU at hu
 obtain ⟨kd, nd, vw, en, rs, pl, cm, ls, dr, lg, vc⟩ := m
 simp only at hk h5 h6 h8 hu hl hle ⊢
 subst hk
 generalize asksOk 1 en = B3 at *
 generalize answersOk rs = B4 at *
 generalize logErr lg c.room = LE at *
 simp only [ub_1_0, ub_1_1, ub_1_2, ub_1_3, ub_1_4, ub_1_5, ub_1_6, ub_1_7, ub_1_8, ub_1_9] at hu ⊢
 simp at hu
 rw [rowL_1, runFn_succ]
 cases B3
 all_goals skip
 all_goals simp [T, xf_ref07_fields, h5, h6, h8, w1, w2, w3]
 all_goals (try grind)
theorem e_fields_2 (c : Cfg) (m : Msg) (hk : m.kind = 2) (hc : cfgOk c) (hl : m.log.length ≤ 1048577) (hn : 1048577 < n) (hu : unusedOk m = true) : runFn T n (d + 4) 67 [.dat (encCfg c), .dat (encM m), .dat (di 2), .dat (encBs (rowL 2))] [] = some (.dat (.bool (numsOk c m && restOk c m)), []) := by
 have h5 := e_ref07_entry (n := n) (d := d) 2 m.entry
 have h6 := e_ref07_result (n := n) (d := d + 2) m.result
 have h8 := e_ref05_Log (n := n) (d := d) m.log c.room hl hn
 rw [logErr_ref m.log c.room (by unfold cfgOk at hc; omega)] at h8
 have w1 := wrap_small (x := 2 * c.f) (by unfold cfgOk at hc; omega)
 have w2 := wrap_small (x := 2 * c.f + 1) (by unfold cfgOk at hc; omega)
 have w3 : ¬ (2 * c.f + 1 = 0) := by unfold cfgOk at hc; omega
 have hc2 : 1 ≤ c.f ∧ c.f ≤ 3 ∧ 1 ≤ c.room ∧ c.room ≤ 256 := by unfold cfgOk at hc; omega
 have hle : logErr m.log c.room = 0 → (m.log.length : Int) ≤ c.room := logErr_len
 unfold restOk drawNot lateLog numsOk numsTail numsBase numsEnd NN readsOk
 unfold unusedOk pairs pairsM pU at hu
 obtain ⟨kd, nd, vw, en, rs, pl, cm, ls, dr, lg, vc⟩ := m
 simp only at hk h5 h6 h8 hu hl hle ⊢
 subst hk
 generalize asksOk 2 en = B3 at *
 generalize answersOk rs = B4 at *
 generalize logErr lg c.room = LE at *
 simp only [ub_2_0, ub_2_1, ub_2_2, ub_2_3, ub_2_4, ub_2_5, ub_2_6, ub_2_7, ub_2_8, ub_2_9] at hu ⊢
 simp at hu
 rw [rowL_2, runFn_succ]
 cases B3
 all_goals skip
 all_goals cases B4
 all_goals simp [T, xf_ref07_fields, h5, h6, h8, w1, w2, w3]
 all_goals (try grind)
theorem e_fields_3 (c : Cfg) (m : Msg) (hk : m.kind = 3) (hc : cfgOk c) (hl : m.log.length ≤ 1048577) (hn : 1048577 < n) (hu : unusedOk m = true) : runFn T n (d + 4) 67 [.dat (encCfg c), .dat (encM m), .dat (di 3), .dat (encBs (rowL 3))] [] = some (.dat (.bool (numsOk c m && restOk c m)), []) := by
 have h5 := e_ref07_entry (n := n) (d := d) 3 m.entry
 have h6 := e_ref07_result (n := n) (d := d + 2) m.result
 have h8 := e_ref05_Log (n := n) (d := d) m.log c.room hl hn
 rw [logErr_ref m.log c.room (by unfold cfgOk at hc; omega)] at h8
 have w1 := wrap_small (x := 2 * c.f) (by unfold cfgOk at hc; omega)
 have w2 := wrap_small (x := 2 * c.f + 1) (by unfold cfgOk at hc; omega)
 have w3 : ¬ (2 * c.f + 1 = 0) := by unfold cfgOk at hc; omega
 have hc2 : 1 ≤ c.f ∧ c.f ≤ 3 ∧ 1 ≤ c.room ∧ c.room ≤ 256 := by unfold cfgOk at hc; omega
 have hle : logErr m.log c.room = 0 → (m.log.length : Int) ≤ c.room := logErr_len
 unfold restOk drawNot lateLog numsOk numsTail numsBase numsEnd NN readsOk
 unfold unusedOk pairs pairsM pU at hu
 obtain ⟨kd, nd, vw, en, rs, pl, cm, ls, dr, lg, vc⟩ := m
 simp only at hk h5 h6 h8 hu hl hle ⊢
 subst hk
 generalize asksOk 3 en = B3 at *
 generalize answersOk rs = B4 at *
 generalize logErr lg c.room = LE at *
 simp only [ub_3_0, ub_3_1, ub_3_2, ub_3_3, ub_3_4, ub_3_5, ub_3_6, ub_3_7, ub_3_8, ub_3_9] at hu ⊢
 simp at hu
 rw [rowL_3, runFn_succ]
 cases B3
 all_goals skip
 all_goals simp [T, xf_ref07_fields, h5, h6, h8, w1, w2, w3]
 all_goals (try grind)
theorem e_fields_4 (c : Cfg) (m : Msg) (hk : m.kind = 4) (hc : cfgOk c) (hl : m.log.length ≤ 1048577) (hn : 1048577 < n) (hu : unusedOk m = true) : runFn T n (d + 4) 67 [.dat (encCfg c), .dat (encM m), .dat (di 4), .dat (encBs (rowL 4))] [] = some (.dat (.bool (numsOk c m && restOk c m)), []) := by
 have h5 := e_ref07_entry (n := n) (d := d) 4 m.entry
 have h6 := e_ref07_result (n := n) (d := d + 2) m.result
 have h8 := e_ref05_Log (n := n) (d := d) m.log c.room hl hn
 rw [logErr_ref m.log c.room (by unfold cfgOk at hc; omega)] at h8
 have w1 := wrap_small (x := 2 * c.f) (by unfold cfgOk at hc; omega)
 have w2 := wrap_small (x := 2 * c.f + 1) (by unfold cfgOk at hc; omega)
 have w3 : ¬ (2 * c.f + 1 = 0) := by unfold cfgOk at hc; omega
 have hc2 : 1 ≤ c.f ∧ c.f ≤ 3 ∧ 1 ≤ c.room ∧ c.room ≤ 256 := by unfold cfgOk at hc; omega
 have hle : logErr m.log c.room = 0 → (m.log.length : Int) ≤ c.room := logErr_len
 unfold restOk drawNot lateLog numsOk numsTail numsBase numsEnd NN readsOk
 unfold unusedOk pairs pairsM pU at hu
 obtain ⟨kd, nd, vw, en, rs, pl, cm, ls, dr, lg, vc⟩ := m
 simp only at hk h5 h6 h8 hu hl hle ⊢
 subst hk
 generalize asksOk 4 en = B3 at *
 generalize answersOk rs = B4 at *
 generalize logErr lg c.room = LE at *
 simp only [ub_4_0, ub_4_1, ub_4_2, ub_4_3, ub_4_4, ub_4_5, ub_4_6, ub_4_7, ub_4_8, ub_4_9] at hu ⊢
 simp at hu
 rw [rowL_4, runFn_succ]
 all_goals simp [T, xf_ref07_fields, h5, h6, h8, w1, w2, w3]
 all_goals (try grind)
theorem e_fields_5 (c : Cfg) (m : Msg) (hk : m.kind = 5) (hc : cfgOk c) (hl : m.log.length ≤ 1048577) (hn : 1048577 < n) (hu : unusedOk m = true) : runFn T n (d + 4) 67 [.dat (encCfg c), .dat (encM m), .dat (di 5), .dat (encBs (rowL 5))] [] = some (.dat (.bool (numsOk c m && restOk c m)), []) := by
 have h5 := e_ref07_entry (n := n) (d := d) 5 m.entry
 have h6 := e_ref07_result (n := n) (d := d + 2) m.result
 have h8 := e_ref05_Log (n := n) (d := d) m.log c.room hl hn
 rw [logErr_ref m.log c.room (by unfold cfgOk at hc; omega)] at h8
 have w1 := wrap_small (x := 2 * c.f) (by unfold cfgOk at hc; omega)
 have w2 := wrap_small (x := 2 * c.f + 1) (by unfold cfgOk at hc; omega)
 have w3 : ¬ (2 * c.f + 1 = 0) := by unfold cfgOk at hc; omega
 have hc2 : 1 ≤ c.f ∧ c.f ≤ 3 ∧ 1 ≤ c.room ∧ c.room ≤ 256 := by unfold cfgOk at hc; omega
 have hle : logErr m.log c.room = 0 → (m.log.length : Int) ≤ c.room := logErr_len
 unfold restOk drawNot lateLog numsOk numsTail numsBase numsEnd NN readsOk
 unfold unusedOk pairs pairsM pU at hu
 obtain ⟨kd, nd, vw, en, rs, pl, cm, ls, dr, lg, vc⟩ := m
 simp only at hk h5 h6 h8 hu hl hle ⊢
 subst hk
 generalize asksOk 5 en = B3 at *
 generalize answersOk rs = B4 at *
 generalize logErr lg c.room = LE at *
 simp only [ub_5_0, ub_5_1, ub_5_2, ub_5_3, ub_5_4, ub_5_5, ub_5_6, ub_5_7, ub_5_8, ub_5_9] at hu ⊢
 simp at hu
 rw [rowL_5, runFn_succ]
 all_goals simp [T, xf_ref07_fields, h5, h6, h8, w1, w2, w3]
 all_goals (try grind)
end Go.Ax
namespace Go.Ax
set_option linter.all false
variable {n d : Nat}
set_option maxRecDepth 10000
set_option maxHeartbeats 4000000
theorem e_fields_6 (c : Cfg) (m : Msg) (hk : m.kind = 6) (hc : cfgOk c) (hl : m.log.length ≤ 1048577) (hn : 1048577 < n) (hu : unusedOk m = true) : runFn T n (d + 4) 67 [.dat (encCfg c), .dat (encM m), .dat (di 6), .dat (encBs (rowL 6))] [] = some (.dat (.bool (numsOk c m && restOk c m)), []) := by
 have h5 := e_ref07_entry (n := n) (d := d) 6 m.entry
 have h6 := e_ref07_result (n := n) (d := d + 2) m.result
 have h8 := e_ref05_Log (n := n) (d := d) m.log c.room hl hn
 rw [logErr_ref m.log c.room (by unfold cfgOk at hc; omega)] at h8
 have w1 := wrap_small (x := 2 * c.f) (by unfold cfgOk at hc; omega)
 have w2 := wrap_small (x := 2 * c.f + 1) (by unfold cfgOk at hc; omega)
 have w3 : ¬ (2 * c.f + 1 = 0) := by unfold cfgOk at hc; omega
 have hc2 : 1 ≤ c.f ∧ c.f ≤ 3 ∧ 1 ≤ c.room ∧ c.room ≤ 256 := by unfold cfgOk at hc; omega
 have hle : logErr m.log c.room = 0 → (m.log.length : Int) ≤ c.room := logErr_len
 unfold restOk drawNot lateLog numsOk numsTail numsBase numsEnd NN readsOk
 unfold unusedOk pairs pairsM pU at hu
 obtain ⟨kd, nd, vw, en, rs, pl, cm, ls, dr, lg, vc⟩ := m
 simp only at hk h5 h6 h8 hu hl hle ⊢
 subst hk
 generalize asksOk 6 en = B3 at *
 generalize answersOk rs = B4 at *
 generalize logErr lg c.room = LE at *
 simp only [ub_6_0, ub_6_1, ub_6_2, ub_6_3, ub_6_4, ub_6_5, ub_6_6, ub_6_7, ub_6_8, ub_6_9] at hu ⊢
 simp at hu
 rw [rowL_6, runFn_succ]
 all_goals simp [T, xf_ref07_fields, h5, h6, h8, w1, w2, w3]
 all_goals (try grind)
theorem e_fields_7 (c : Cfg) (m : Msg) (hk : m.kind = 7) (hc : cfgOk c) (hl : m.log.length ≤ 1048577) (hn : 1048577 < n) (hu : unusedOk m = true) : runFn T n (d + 4) 67 [.dat (encCfg c), .dat (encM m), .dat (di 7), .dat (encBs (rowL 7))] [] = some (.dat (.bool (numsOk c m && restOk c m)), []) := by
 have h5 := e_ref07_entry (n := n) (d := d) 7 m.entry
 have h6 := e_ref07_result (n := n) (d := d + 2) m.result
 have h8 := e_ref05_Log (n := n) (d := d) m.log c.room hl hn
 rw [logErr_ref m.log c.room (by unfold cfgOk at hc; omega)] at h8
 have w1 := wrap_small (x := 2 * c.f) (by unfold cfgOk at hc; omega)
 have w2 := wrap_small (x := 2 * c.f + 1) (by unfold cfgOk at hc; omega)
 have w3 : ¬ (2 * c.f + 1 = 0) := by unfold cfgOk at hc; omega
 have hc2 : 1 ≤ c.f ∧ c.f ≤ 3 ∧ 1 ≤ c.room ∧ c.room ≤ 256 := by unfold cfgOk at hc; omega
 have hle : logErr m.log c.room = 0 → (m.log.length : Int) ≤ c.room := logErr_len
 unfold restOk drawNot lateLog numsOk numsTail numsBase numsEnd NN readsOk
 unfold unusedOk pairs pairsM pU at hu
 obtain ⟨kd, nd, vw, en, rs, pl, cm, ls, dr, lg, vc⟩ := m
 simp only at hk h5 h6 h8 hu hl hle ⊢
 subst hk
 generalize asksOk 7 en = B3 at *
 generalize answersOk rs = B4 at *
 generalize logErr lg c.room = LE at *
 simp only [ub_7_0, ub_7_1, ub_7_2, ub_7_3, ub_7_4, ub_7_5, ub_7_6, ub_7_7, ub_7_8, ub_7_9] at hu ⊢
 simp at hu
 rw [rowL_7, runFn_succ]
 by_cases g1 : nd < 0
 ·have g1' := eq_true g1
  simp [T, xf_ref07_fields, h5, h6, h8, w1, w2, w3, g1']
  all_goals (try grind)
 by_cases g2 : 2 * c.f + 1 ≤ nd
 ·have g2' := eq_true g2
  simp [T, xf_ref07_fields, h5, h6, h8, w1, w2, w3, g1, g2']
  all_goals (try grind)
 have ge : 0 ≤ nd := by omega
 have lt : nd < 2 * c.f + 1 := by omega
 by_cases g3 : vw < 0
 ·have g3' := eq_true g3
  simp [T, xf_ref07_fields, h5, h6, h8, w1, w2, w3, g1, g2, ge, lt, g3']
  all_goals (try grind)
 by_cases g4 : 4294967296 < vw
 ·have g4' := eq_true g4
  simp [T, xf_ref07_fields, h5, h6, h8, w1, w2, w3, g1, g2, ge, lt, g3, g4']
  all_goals (try grind)
 by_cases g5 : vw < 1
 ·have g5' := eq_true g5
  simp [T, xf_ref07_fields, h5, h6, h8, w1, w2, w3, g1, g2, ge, lt, g3, g4, g5']
  all_goals (try grind)
 by_cases g7 : ls < 0
 ·have g7' := eq_true g7
  simp [T, xf_ref07_fields, h5, h6, h8, w1, w2, w3, g1, g2, ge, lt, g3, g4, g5, g7']
  all_goals (try grind)
 by_cases g8 : vw ≤ ls
 ·have g8' := eq_true g8
  simp [T, xf_ref07_fields, h5, h6, h8, w1, w2, w3, g1, g2, ge, lt, g3, g4, g5, g7, g8']
  all_goals (try grind)
 by_cases gl : LE = 0
 case neg =>
  simp [T, xf_ref07_fields, h5, h6, h8, w1, w2, w3, g1, g2, ge, lt, g3, g4, g5, g7, g8, gl]
  all_goals (try grind)
 have gl' := eq_true gl
 by_cases g9 : cm < 0
 ·have g9' := eq_true g9
  simp [T, xf_ref07_fields, h5, h6, h8, w1, w2, w3, g1, g2, ge, lt, g3, g4, g5, g7, g8, gl', g9']
  all_goals (try grind)
 by_cases g10 : c.room < cm
 ·have g10' := eq_true g10
  simp [T, xf_ref07_fields, h5, h6, h8, w1, w2, w3, g1, g2, ge, lt, g3, g4, g5, g7, g8, gl', g9, g10']
  all_goals (try grind)
 by_cases g11 : (lg.length : Int) < cm
 ·have g11' := eq_true g11
  simp [T, xf_ref07_fields, h5, h6, h8, w1, w2, w3, g1, g2, ge, lt, g3, g4, g5, g7, g8, gl', g9, g10, g11']
  all_goals (try grind)
 have ge2 : 0 ≤ cm := by omega
 have lt2 : cm ≤ c.room := by omega
 simp [T, xf_ref07_fields, h5, h6, h8, w1, w2, w3, g1, g2, ge, lt, g3, g4, g5, g7, g8, gl', g9, g10, g11, ge2, lt2]
 all_goals (try grind)
theorem e_fields_8 (c : Cfg) (m : Msg) (hk : m.kind = 8) (hc : cfgOk c) (hl : m.log.length ≤ 1048577) (hn : 1048577 < n) (hu : unusedOk m = true) : runFn T n (d + 4) 67 [.dat (encCfg c), .dat (encM m), .dat (di 8), .dat (encBs (rowL 8))] [] = some (.dat (.bool (numsOk c m && restOk c m)), []) := by
 have h5 := e_ref07_entry (n := n) (d := d) 8 m.entry
 have h6 := e_ref07_result (n := n) (d := d + 2) m.result
 have h8 := e_ref05_Log (n := n) (d := d) m.log c.room hl hn
 rw [logErr_ref m.log c.room (by unfold cfgOk at hc; omega)] at h8
 have w1 := wrap_small (x := 2 * c.f) (by unfold cfgOk at hc; omega)
 have w2 := wrap_small (x := 2 * c.f + 1) (by unfold cfgOk at hc; omega)
 have w3 : ¬ (2 * c.f + 1 = 0) := by unfold cfgOk at hc; omega
 have hc2 : 1 ≤ c.f ∧ c.f ≤ 3 ∧ 1 ≤ c.room ∧ c.room ≤ 256 := by unfold cfgOk at hc; omega
 have hle : logErr m.log c.room = 0 → (m.log.length : Int) ≤ c.room := logErr_len
 unfold restOk drawNot lateLog numsOk numsTail numsBase numsEnd NN readsOk
 unfold unusedOk pairs pairsM pU at hu
 obtain ⟨kd, nd, vw, en, rs, pl, cm, ls, dr, lg, vc⟩ := m
 simp only at hk h5 h6 h8 hu hl hle ⊢
 subst hk
 generalize asksOk 8 en = B3 at *
 generalize answersOk rs = B4 at *
 generalize logErr lg c.room = LE at *
 simp only [ub_8_0, ub_8_1, ub_8_2, ub_8_3, ub_8_4, ub_8_5, ub_8_6, ub_8_7, ub_8_8, ub_8_9] at hu ⊢
 simp at hu
 rw [rowL_8, runFn_succ]
 by_cases g1 : nd < 0
 ·have g1' := eq_true g1
  simp [T, xf_ref07_fields, h5, h6, h8, w1, w2, w3, g1']
  all_goals (try grind)
 by_cases g2 : 2 * c.f + 1 ≤ nd
 ·have g2' := eq_true g2
  simp [T, xf_ref07_fields, h5, h6, h8, w1, w2, w3, g1, g2']
  all_goals (try grind)
 have ge : 0 ≤ nd := by omega
 have lt : nd < 2 * c.f + 1 := by omega
 by_cases g3 : vw < 0
 ·have g3' := eq_true g3
  simp [T, xf_ref07_fields, h5, h6, h8, w1, w2, w3, g1, g2, ge, lt, g3']
  all_goals (try grind)
 by_cases g4 : 4294967296 < vw
 ·have g4' := eq_true g4
  simp [T, xf_ref07_fields, h5, h6, h8, w1, w2, w3, g1, g2, ge, lt, g3, g4']
  all_goals (try grind)
 by_cases g5 : vw < 1
 ·have g5' := eq_true g5
  simp [T, xf_ref07_fields, h5, h6, h8, w1, w2, w3, g1, g2, ge, lt, g3, g4, g5']
  all_goals (try grind)
 by_cases g6 : nd = vw.tmod (2 * c.f + 1)
 case neg =>
  simp [T, xf_ref07_fields, h5, h6, h8, w1, w2, w3, g1, g2, ge, lt, g3, g4, g5, g6]
  all_goals (try grind)
 have g6' := eq_true g6
 by_cases gl : LE = 0
 case neg =>
  simp [T, xf_ref07_fields, h5, h6, h8, w1, w2, w3, g1, g2, ge, lt, g3, g4, g5, g6', gl]
  all_goals (try grind)
 have gl' := eq_true gl
 by_cases g9 : cm < 0
 ·have g9' := eq_true g9
  simp [T, xf_ref07_fields, h5, h6, h8, w1, w2, w3, g1, g2, ge, lt, g3, g4, g5, g6', gl', g9']
  all_goals (try grind)
 by_cases g10 : c.room < cm
 ·have g10' := eq_true g10
  simp [T, xf_ref07_fields, h5, h6, h8, w1, w2, w3, g1, g2, ge, lt, g3, g4, g5, g6', gl', g9, g10']
  all_goals (try grind)
 by_cases g11 : (lg.length : Int) < cm
 ·have g11' := eq_true g11
  simp [T, xf_ref07_fields, h5, h6, h8, w1, w2, w3, g1, g2, ge, lt, g3, g4, g5, g6', gl', g9, g10, g11']
  all_goals (try grind)
 have ge2 : 0 ≤ cm := by omega
 have lt2 : cm ≤ c.room := by omega
 simp [T, xf_ref07_fields, h5, h6, h8, w1, w2, w3, g1, g2, ge, lt, g3, g4, g5, g6', gl', g9, g10, g11, ge2, lt2]
 all_goals (try grind)
end Go.Ax
namespace Go.Ax
set_option linter.all false
variable {n d : Nat}
set_option maxRecDepth 10000
set_option maxHeartbeats 4000000
theorem e_fields_9 (c : Cfg) (m : Msg) (hk : m.kind = 9) (hc : cfgOk c) (hl : m.log.length ≤ 1048577) (hn : 1048577 < n) (hu : unusedOk m = true) : runFn T n (d + 4) 67 [.dat (encCfg c), .dat (encM m), .dat (di 9), .dat (encBs (rowL 9))] [] = some (.dat (.bool (numsOk c m && restOk c m)), []) := by
 have h5 := e_ref07_entry (n := n) (d := d) 9 m.entry
 have h6 := e_ref07_result (n := n) (d := d + 2) m.result
 have h8 := e_ref05_Log (n := n) (d := d) m.log c.room hl hn
 rw [logErr_ref m.log c.room (by unfold cfgOk at hc; omega)] at h8
 have w1 := wrap_small (x := 2 * c.f) (by unfold cfgOk at hc; omega)
 have w2 := wrap_small (x := 2 * c.f + 1) (by unfold cfgOk at hc; omega)
 have w3 : ¬ (2 * c.f + 1 = 0) := by unfold cfgOk at hc; omega
 have hc2 : 1 ≤ c.f ∧ c.f ≤ 3 ∧ 1 ≤ c.room ∧ c.room ≤ 256 := by unfold cfgOk at hc; omega
 have hle : logErr m.log c.room = 0 → (m.log.length : Int) ≤ c.room := logErr_len
 unfold restOk drawNot lateLog numsOk numsTail numsBase numsEnd NN readsOk
 unfold unusedOk pairs pairsM pU at hu
 obtain ⟨kd, nd, vw, en, rs, pl, cm, ls, dr, lg, vc⟩ := m
 simp only at hk h5 h6 h8 hu hl hle ⊢
 subst hk
 generalize asksOk 9 en = B3 at *
 generalize answersOk rs = B4 at *
 generalize logErr lg c.room = LE at *
 simp only [ub_9_0, ub_9_1, ub_9_2, ub_9_3, ub_9_4, ub_9_5, ub_9_6, ub_9_7, ub_9_8, ub_9_9] at hu ⊢
 simp at hu
 rw [rowL_9, runFn_succ]
 by_cases g1 : nd < 0
 ·have g1' := eq_true g1
  simp [T, xf_ref07_fields, h5, h6, h8, w1, w2, w3, g1']
  all_goals (try grind)
 by_cases g2 : 2 * c.f + 1 ≤ nd
 ·have g2' := eq_true g2
  simp [T, xf_ref07_fields, h5, h6, h8, w1, w2, w3, g1, g2']
  all_goals (try grind)
 have ge : 0 ≤ nd := by omega
 have lt : nd < 2 * c.f + 1 := by omega
 by_cases gv : (vc.length : Int) = 2 * c.f + 1
 case neg =>
  simp [T, xf_ref07_fields, h5, h6, h8, w1, w2, w3, g1, g2, ge, lt, gv]
  all_goals (try grind)
 have gv' := eq_true gv
 have hlt : nd.toNat < vc.length := by omega
 have hlt2 : nd < vc.length := by omega
 rw [List.getElem?_eq_getElem hlt]
 by_cases gd : dr.hi = 0 ∧ dr.lo = 0
 case pos =>
  have gd1 := eq_true gd.1
  have gd2 := eq_true gd.2
  simp [T, xf_ref07_fields, h5, h6, h8, w1, w2, w3, g1, g2, ge, lt, gv', hlt, hlt2, gd1, gd2]
  all_goals (try grind)
 have gx3 : ¬ vc[nd.toNat] = dr → ¬ (vc[nd.toNat].hi = dr.hi ∧ vc[nd.toNat].lo = dr.lo) := by
  intro gx h
  apply gx
  cases hv : vc[nd.toNat]
  cases dr
  simp [hv] at h
  simp [h]
 by_cases gh : dr.hi = 0
 ·have gh' := eq_true gh
  have gk : ¬ dr.lo = 0 := fun h => gd ⟨gh, h⟩
  by_cases gx : vc[nd.toNat] = dr
  ·simp [T, xf_ref07_fields, h5, h6, h8, w1, w2, w3, g1, g2, ge, lt, gv', hlt, hlt2, gh', gk, gx]
   all_goals (try grind)
  ·have gx2 := gx3 gx
   clear gx3
   by_cases gy : vc[nd.toNat].hi = dr.hi
   ·have gz : ¬ vc[nd.toNat].lo = dr.lo := fun h => gx2 ⟨gy, h⟩
    have gz2 : ¬ dr.lo = vc[nd.toNat].lo := fun h => gz h.symm
    have gy1 := eq_true gy
    have gy2 := eq_true gy.symm
    simp [T, xf_ref07_fields, h5, h6, h8, w1, w2, w3, g1, g2, ge, lt, gv', hlt, hlt2, gh', gk, gx, gy1, gy2, gz, gz2]
    all_goals (try grind)
   ·have gy2 : ¬ dr.hi = vc[nd.toNat].hi := fun h => gy h.symm
    simp [T, xf_ref07_fields, h5, h6, h8, w1, w2, w3, g1, g2, ge, lt, gv', hlt, hlt2, gh', gk, gx, gy, gy2]
    all_goals (try grind)
 ·by_cases gx : vc[nd.toNat] = dr
  ·simp [T, xf_ref07_fields, h5, h6, h8, w1, w2, w3, g1, g2, ge, lt, gv', hlt, hlt2, gh, gx]
   all_goals (try grind)
  ·have gx2 := gx3 gx
   clear gx3
   by_cases gy : vc[nd.toNat].hi = dr.hi
   ·have gz : ¬ vc[nd.toNat].lo = dr.lo := fun h => gx2 ⟨gy, h⟩
    have gz2 : ¬ dr.lo = vc[nd.toNat].lo := fun h => gz h.symm
    have gy1 := eq_true gy
    have gy2 := eq_true gy.symm
    simp [T, xf_ref07_fields, h5, h6, h8, w1, w2, w3, g1, g2, ge, lt, gv', hlt, hlt2, gh, gx, gy1, gy2, gz, gz2]
    all_goals (try grind)
   ·have gy2 : ¬ dr.hi = vc[nd.toNat].hi := fun h => gy h.symm
    simp [T, xf_ref07_fields, h5, h6, h8, w1, w2, w3, g1, g2, ge, lt, gv', hlt, hlt2, gh, gx, gy, gy2]
    all_goals (try grind)
theorem e_fields_10 (c : Cfg) (m : Msg) (hk : m.kind = 10) (hc : cfgOk c) (hl : m.log.length ≤ 1048577) (hn : 1048577 < n) (hu : unusedOk m = true) : runFn T n (d + 4) 67 [.dat (encCfg c), .dat (encM m), .dat (di 10), .dat (encBs (rowL 10))] [] = some (.dat (.bool (numsOk c m && restOk c m)), []) := by
 have h5 := e_ref07_entry (n := n) (d := d) 10 m.entry
 have h6 := e_ref07_result (n := n) (d := d + 2) m.result
 have h8 := e_ref05_Log (n := n) (d := d) m.log c.room hl hn
 rw [logErr_ref m.log c.room (by unfold cfgOk at hc; omega)] at h8
 have w1 := wrap_small (x := 2 * c.f) (by unfold cfgOk at hc; omega)
 have w2 := wrap_small (x := 2 * c.f + 1) (by unfold cfgOk at hc; omega)
 have w3 : ¬ (2 * c.f + 1 = 0) := by unfold cfgOk at hc; omega
 have hc2 : 1 ≤ c.f ∧ c.f ≤ 3 ∧ 1 ≤ c.room ∧ c.room ≤ 256 := by unfold cfgOk at hc; omega
 have hle : logErr m.log c.room = 0 → (m.log.length : Int) ≤ c.room := logErr_len
 unfold restOk drawNot lateLog numsOk numsTail numsBase numsEnd NN readsOk
 unfold unusedOk pairs pairsM pU at hu
 obtain ⟨kd, nd, vw, en, rs, pl, cm, ls, dr, lg, vc⟩ := m
 simp only at hk h5 h6 h8 hu hl hle ⊢
 subst hk
 generalize asksOk 10 en = B3 at *
 generalize answersOk rs = B4 at *
 generalize logErr lg c.room = LE at *
 simp only [ub_10_0, ub_10_1, ub_10_2, ub_10_3, ub_10_4, ub_10_5, ub_10_6, ub_10_7, ub_10_8, ub_10_9] at hu ⊢
 simp at hu
 rw [rowL_10, runFn_succ]
 by_cases g1 : nd < 0
 ·have g1' := eq_true g1
  simp [T, xf_ref07_fields, h5, h6, h8, w1, w2, w3, g1']
  all_goals (try grind)
 by_cases g2 : 2 * c.f + 1 ≤ nd
 ·have g2' := eq_true g2
  simp [T, xf_ref07_fields, h5, h6, h8, w1, w2, w3, g1, g2']
  all_goals (try grind)
 have ge : 0 ≤ nd := by omega
 have lt : nd < 2 * c.f + 1 := by omega
 by_cases g3 : vw < 0
 ·have g3' := eq_true g3
  simp [T, xf_ref07_fields, h5, h6, h8, w1, w2, w3, g1, g2, ge, lt, g3']
  all_goals (try grind)
 by_cases g4 : 4294967296 < vw
 ·have g4' := eq_true g4
  simp [T, xf_ref07_fields, h5, h6, h8, w1, w2, w3, g1, g2, ge, lt, g3, g4']
  all_goals (try grind)
 by_cases gl : LE = 0
 case neg =>
  simp [T, xf_ref07_fields, h5, h6, h8, w1, w2, w3, g1, g2, ge, lt, g3, g4, gl]
  all_goals (try grind)
 have gl' := eq_true gl
 by_cases g9 : cm < 0
 ·have g9' := eq_true g9
  simp [T, xf_ref07_fields, h5, h6, h8, w1, w2, w3, g1, g2, ge, lt, g3, g4, gl', g9']
  all_goals (try grind)
 by_cases g10 : c.room < cm
 ·have g10' := eq_true g10
  simp [T, xf_ref07_fields, h5, h6, h8, w1, w2, w3, g1, g2, ge, lt, g3, g4, gl', g9, g10']
  all_goals (try grind)
 by_cases g11 : (lg.length : Int) < cm
 ·have g11' := eq_true g11
  simp [T, xf_ref07_fields, h5, h6, h8, w1, w2, w3, g1, g2, ge, lt, g3, g4, gl', g9, g10, g11']
  all_goals (try grind)
 have ge2 : 0 ≤ cm := by omega
 have lt2 : cm ≤ c.room := by omega
 have fin : (lg = [] ∨ nd = vw.tmod (2 * c.f + 1)) ∨ ¬ (lg = [] ∨ nd = vw.tmod (2 * c.f + 1)) := Classical.em _
 by_cases gx : lg = []
 ·have gx1 := eq_true gx
  have gx' : ¬ 0 < lg.length := by simp [gx]
  by_cases gv : (vc.length : Int) = 2 * c.f + 1
  case neg =>
   simp [T, xf_ref07_fields, h5, h6, h8, w1, w2, w3, g1, g2, ge, lt, g3, g4, gl', g9, g10, g11, ge2, lt2, gx1, gx', gv]
   all_goals (try grind)
  by_cases gd : dr.hi = 0 ∧ dr.lo = 0
  case pos =>
   have gd1 := eq_true gd.1
   have gd2 := eq_true gd.2
   simp [T, xf_ref07_fields, h5, h6, h8, w1, w2, w3, g1, g2, ge, lt, g3, g4, gl', g9, g10, g11, ge2, lt2, gx1, gx', gv, gd1, gd2]
   all_goals (try grind)
  by_cases gh : dr.hi = 0
  ·have gh' := eq_true gh
   have gk : ¬ dr.lo = 0 := fun h => gd ⟨gh, h⟩
   simp [T, xf_ref07_fields, h5, h6, h8, w1, w2, w3, g1, g2, ge, lt, g3, g4, gl', g9, g10, g11, ge2, lt2, gx1, gx', gv, gh', gk]
   all_goals (try grind)
  ·simp [T, xf_ref07_fields, h5, h6, h8, w1, w2, w3, g1, g2, ge, lt, g3, g4, gl', g9, g10, g11, ge2, lt2, gx1, gx', gv, gh]
   all_goals (try grind)
 ·have gx' : 0 < lg.length := List.length_pos_iff.2 gx
  by_cases gy : nd = vw.tmod (2 * c.f + 1)
  case neg =>
   simp [T, xf_ref07_fields, h5, h6, h8, w1, w2, w3, g1, g2, ge, lt, g3, g4, gl', g9, g10, g11, ge2, lt2, gx, gx', gy]
   all_goals (try grind)
  ·have gy' := eq_true gy
   by_cases gv : (vc.length : Int) = 2 * c.f + 1
   case neg =>
    simp [T, xf_ref07_fields, h5, h6, h8, w1, w2, w3, g1, g2, ge, lt, g3, g4, gl', g9, g10, g11, ge2, lt2, gx, gx', gy', gv]
    all_goals (try grind)
   by_cases gd : dr.hi = 0 ∧ dr.lo = 0
   case pos =>
    have gd1 := eq_true gd.1
    have gd2 := eq_true gd.2
    simp [T, xf_ref07_fields, h5, h6, h8, w1, w2, w3, g1, g2, ge, lt, g3, g4, gl', g9, g10, g11, ge2, lt2, gx, gx', gy', gv, gd1, gd2]
    all_goals (try grind)
   by_cases gh : dr.hi = 0
   ·have gh' := eq_true gh
    have gk : ¬ dr.lo = 0 := fun h => gd ⟨gh, h⟩
    simp [T, xf_ref07_fields, h5, h6, h8, w1, w2, w3, g1, g2, ge, lt, g3, g4, gl', g9, g10, g11, ge2, lt2, gx, gx', gy', gv, gh', gk]
    all_goals (try grind)
   ·simp [T, xf_ref07_fields, h5, h6, h8, w1, w2, w3, g1, g2, ge, lt, g3, g4, gl', g9, g10, g11, ge2, lt2, gx, gx', gy', gv, gh]
    all_goals (try grind)
end Go.Ax
namespace Go.Ax
set_option linter.all false
variable {n d : Nat}
set_option maxRecDepth 10000
set_option maxHeartbeats 4000000
theorem e_fields_11 (c : Cfg) (m : Msg) (hk : m.kind = 11) (hc : cfgOk c) (hl : m.log.length ≤ 1048577) (hn : 1048577 < n) (hu : unusedOk m = true) : runFn T n (d + 4) 67 [.dat (encCfg c), .dat (encM m), .dat (di 11), .dat (encBs (rowL 11))] [] = some (.dat (.bool (numsOk c m && restOk c m)), []) := by
 have h5 := e_ref07_entry (n := n) (d := d) 11 m.entry
 have h6 := e_ref07_result (n := n) (d := d + 2) m.result
 have h8 := e_ref05_Log (n := n) (d := d) m.log c.room hl hn
 rw [logErr_ref m.log c.room (by unfold cfgOk at hc; omega)] at h8
 have w1 := wrap_small (x := 2 * c.f) (by unfold cfgOk at hc; omega)
 have w2 := wrap_small (x := 2 * c.f + 1) (by unfold cfgOk at hc; omega)
 have w3 : ¬ (2 * c.f + 1 = 0) := by unfold cfgOk at hc; omega
 have hc2 : 1 ≤ c.f ∧ c.f ≤ 3 ∧ 1 ≤ c.room ∧ c.room ≤ 256 := by unfold cfgOk at hc; omega
 have hle : logErr m.log c.room = 0 → (m.log.length : Int) ≤ c.room := logErr_len
 unfold restOk drawNot lateLog numsOk numsTail numsBase numsEnd NN readsOk
 unfold unusedOk pairs pairsM pU at hu
 obtain ⟨kd, nd, vw, en, rs, pl, cm, ls, dr, lg, vc⟩ := m
 simp only at hk h5 h6 h8 hu hl hle ⊢
 subst hk
 generalize asksOk 11 en = B3 at *
 generalize answersOk rs = B4 at *
 generalize logErr lg c.room = LE at *
 simp only [ub_11_0, ub_11_1, ub_11_2, ub_11_3, ub_11_4, ub_11_5, ub_11_6, ub_11_7, ub_11_8, ub_11_9] at hu ⊢
 simp at hu
 rw [rowL_11, runFn_succ]
 all_goals simp [T, xf_ref07_fields, h5, h6, h8, w1, w2, w3]
 all_goals (try grind)
theorem e_fields_12 (c : Cfg) (m : Msg) (hk : m.kind = 12) (hc : cfgOk c) (hl : m.log.length ≤ 1048577) (hn : 1048577 < n) (hu : unusedOk m = true) : runFn T n (d + 4) 67 [.dat (encCfg c), .dat (encM m), .dat (di 12), .dat (encBs (rowL 12))] [] = some (.dat (.bool (numsOk c m && restOk c m)), []) := by
 have h5 := e_ref07_entry (n := n) (d := d) 12 m.entry
 have h6 := e_ref07_result (n := n) (d := d + 2) m.result
 have h8 := e_ref05_Log (n := n) (d := d) m.log c.room hl hn
 rw [logErr_ref m.log c.room (by unfold cfgOk at hc; omega)] at h8
 have w1 := wrap_small (x := 2 * c.f) (by unfold cfgOk at hc; omega)
 have w2 := wrap_small (x := 2 * c.f + 1) (by unfold cfgOk at hc; omega)
 have w3 : ¬ (2 * c.f + 1 = 0) := by unfold cfgOk at hc; omega
 have hc2 : 1 ≤ c.f ∧ c.f ≤ 3 ∧ 1 ≤ c.room ∧ c.room ≤ 256 := by unfold cfgOk at hc; omega
 have hle : logErr m.log c.room = 0 → (m.log.length : Int) ≤ c.room := logErr_len
 unfold restOk drawNot lateLog numsOk numsTail numsBase numsEnd NN readsOk
 unfold unusedOk pairs pairsM pU at hu
 obtain ⟨kd, nd, vw, en, rs, pl, cm, ls, dr, lg, vc⟩ := m
 simp only at hk h5 h6 h8 hu hl hle ⊢
 subst hk
 generalize asksOk 12 en = B3 at *
 generalize answersOk rs = B4 at *
 generalize logErr lg c.room = LE at *
 simp only [ub_12_0, ub_12_1, ub_12_2, ub_12_3, ub_12_4, ub_12_5, ub_12_6, ub_12_7, ub_12_8, ub_12_9] at hu ⊢
 simp at hu
 rw [rowL_12, runFn_succ]
 by_cases g1 : nd < 0
 ·have g1' := eq_true g1
  simp [T, xf_ref07_fields, h5, h6, h8, w1, w2, w3, g1']
  all_goals (try grind)
 by_cases g2 : 2 * c.f + 1 ≤ nd
 ·have g2' := eq_true g2
  simp [T, xf_ref07_fields, h5, h6, h8, w1, w2, w3, g1, g2']
  all_goals (try grind)
 have ge : 0 ≤ nd := by omega
 have lt : nd < 2 * c.f + 1 := by omega
 by_cases g3 : vw < 0
 ·have g3' := eq_true g3
  simp [T, xf_ref07_fields, h5, h6, h8, w1, w2, w3, g1, g2, ge, lt, g3']
  all_goals (try grind)
 by_cases g4 : 4294967296 < vw
 ·have g4' := eq_true g4
  simp [T, xf_ref07_fields, h5, h6, h8, w1, w2, w3, g1, g2, ge, lt, g3, g4']
  all_goals (try grind)
 by_cases gl : LE = 0
 case neg =>
  simp [T, xf_ref07_fields, h5, h6, h8, w1, w2, w3, g1, g2, ge, lt, g3, g4, gl]
  all_goals (try grind)
 have gl' := eq_true gl
 by_cases g9 : cm < 0
 ·have g9' := eq_true g9
  simp [T, xf_ref07_fields, h5, h6, h8, w1, w2, w3, g1, g2, ge, lt, g3, g4, gl', g9']
  all_goals (try grind)
 by_cases g10 : c.room < cm
 ·have g10' := eq_true g10
  simp [T, xf_ref07_fields, h5, h6, h8, w1, w2, w3, g1, g2, ge, lt, g3, g4, gl', g9, g10']
  all_goals (try grind)
 by_cases g11 : (lg.length : Int) < cm
 ·have g11' := eq_true g11
  simp [T, xf_ref07_fields, h5, h6, h8, w1, w2, w3, g1, g2, ge, lt, g3, g4, gl', g9, g10, g11']
  all_goals (try grind)
 have ge2 : 0 ≤ cm := by omega
 have lt2 : cm ≤ c.room := by omega
 simp [T, xf_ref07_fields, h5, h6, h8, w1, w2, w3, g1, g2, ge, lt, g3, g4, gl', g9, g10, g11, ge2, lt2]
 all_goals (try grind)
theorem e_fields_13 (c : Cfg) (m : Msg) (hk : m.kind = 13) (hc : cfgOk c) (hl : m.log.length ≤ 1048577) (hn : 1048577 < n) (hu : unusedOk m = true) : runFn T n (d + 4) 67 [.dat (encCfg c), .dat (encM m), .dat (di 13), .dat (encBs (rowL 13))] [] = some (.dat (.bool (numsOk c m && restOk c m)), []) := by
 have h5 := e_ref07_entry (n := n) (d := d) 13 m.entry
 have h6 := e_ref07_result (n := n) (d := d + 2) m.result
 have h8 := e_ref05_Log (n := n) (d := d) m.log c.room hl hn
 rw [logErr_ref m.log c.room (by unfold cfgOk at hc; omega)] at h8
 have w1 := wrap_small (x := 2 * c.f) (by unfold cfgOk at hc; omega)
 have w2 := wrap_small (x := 2 * c.f + 1) (by unfold cfgOk at hc; omega)
 have w3 : ¬ (2 * c.f + 1 = 0) := by unfold cfgOk at hc; omega
 have hc2 : 1 ≤ c.f ∧ c.f ≤ 3 ∧ 1 ≤ c.room ∧ c.room ≤ 256 := by unfold cfgOk at hc; omega
 have hle : logErr m.log c.room = 0 → (m.log.length : Int) ≤ c.room := logErr_len
 unfold restOk drawNot lateLog numsOk numsTail numsBase numsEnd NN readsOk
 unfold unusedOk pairs pairsM pU at hu
 obtain ⟨kd, nd, vw, en, rs, pl, cm, ls, dr, lg, vc⟩ := m
 simp only at hk h5 h6 h8 hu hl hle ⊢
 subst hk
 generalize asksOk 13 en = B3 at *
 generalize answersOk rs = B4 at *
 generalize logErr lg c.room = LE at *
 simp only [ub_13_0, ub_13_1, ub_13_2, ub_13_3, ub_13_4, ub_13_5, ub_13_6, ub_13_7, ub_13_8, ub_13_9] at hu ⊢
 simp at hu
 rw [rowL_13, runFn_succ]
 cases B3
 all_goals skip
 all_goals simp [T, xf_ref07_fields, h5, h6, h8, w1, w2, w3]
 all_goals (try grind)
theorem e_fields_14 (c : Cfg) (m : Msg) (hk : m.kind = 14) (hc : cfgOk c) (hl : m.log.length ≤ 1048577) (hn : 1048577 < n) (hu : unusedOk m = true) : runFn T n (d + 4) 67 [.dat (encCfg c), .dat (encM m), .dat (di 14), .dat (encBs (rowL 14))] [] = some (.dat (.bool (numsOk c m && restOk c m)), []) := by
 have h5 := e_ref07_entry (n := n) (d := d) 14 m.entry
 have h6 := e_ref07_result (n := n) (d := d + 2) m.result
 have h8 := e_ref05_Log (n := n) (d := d) m.log c.room hl hn
 rw [logErr_ref m.log c.room (by unfold cfgOk at hc; omega)] at h8
 have w1 := wrap_small (x := 2 * c.f) (by unfold cfgOk at hc; omega)
 have w2 := wrap_small (x := 2 * c.f + 1) (by unfold cfgOk at hc; omega)
 have w3 : ¬ (2 * c.f + 1 = 0) := by unfold cfgOk at hc; omega
 have hc2 : 1 ≤ c.f ∧ c.f ≤ 3 ∧ 1 ≤ c.room ∧ c.room ≤ 256 := by unfold cfgOk at hc; omega
 have hle : logErr m.log c.room = 0 → (m.log.length : Int) ≤ c.room := logErr_len
 unfold restOk drawNot lateLog numsOk numsTail numsBase numsEnd NN readsOk
 unfold unusedOk pairs pairsM pU at hu
 obtain ⟨kd, nd, vw, en, rs, pl, cm, ls, dr, lg, vc⟩ := m
 simp only at hk h5 h6 h8 hu hl hle ⊢
 subst hk
 generalize asksOk 14 en = B3 at *
 generalize answersOk rs = B4 at *
 generalize logErr lg c.room = LE at *
 simp only [ub_14_0, ub_14_1, ub_14_2, ub_14_3, ub_14_4, ub_14_5, ub_14_6, ub_14_7, ub_14_8, ub_14_9] at hu ⊢
 simp at hu
 rw [rowL_14, runFn_succ]
 by_cases g1 : nd < 0
 ·have g1' := eq_true g1
  simp [T, xf_ref07_fields, h5, h6, h8, w1, w2, w3, g1']
  all_goals (try grind)
 by_cases g2 : 2 * c.f + 1 ≤ nd
 ·have g2' := eq_true g2
  simp [T, xf_ref07_fields, h5, h6, h8, w1, w2, w3, g1, g2']
  all_goals (try grind)
 have ge : 0 ≤ nd := by omega
 have lt : nd < 2 * c.f + 1 := by omega
 by_cases g3 : vw < 0
 ·have g3' := eq_true g3
  simp [T, xf_ref07_fields, h5, h6, h8, w1, w2, w3, g1, g2, ge, lt, g3']
  all_goals (try grind)
 by_cases g4 : 4294967296 < vw
 ·have g4' := eq_true g4
  simp [T, xf_ref07_fields, h5, h6, h8, w1, w2, w3, g1, g2, ge, lt, g3, g4']
  all_goals (try grind)
 by_cases g9 : cm < 0
 ·have g9' := eq_true g9
  simp [T, xf_ref07_fields, h5, h6, h8, w1, w2, w3, g1, g2, ge, lt, g3, g4, g9']
  all_goals (try grind)
 by_cases g10 : c.room < cm
 ·have g10' := eq_true g10
  simp [T, xf_ref07_fields, h5, h6, h8, w1, w2, w3, g1, g2, ge, lt, g3, g4, g9, g10']
  all_goals (try grind)
 have ge2 : 0 ≤ cm := by omega
 have lt2 : cm ≤ c.room := by omega
 cases B3
 all_goals cases B4
 all_goals simp [T, xf_ref07_fields, h5, h6, h8, w1, w2, w3, g1, g2, ge, lt, g3, g4, g9, g10, ge2, lt2]
 all_goals (try grind)
end Go.Ax
