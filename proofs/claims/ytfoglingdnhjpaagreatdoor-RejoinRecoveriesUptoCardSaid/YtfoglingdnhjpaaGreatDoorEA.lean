/-
  Small functions, evaluated.
-/
import Derived.Test.YtfoglingdnhjpaaGreatDoorXTab
import Derived.Test.YtfoglingdnhjpaaGreatDoorXLoop
namespace Go.Ax
set_option linter.all false
variable {n d : Nat}
set_option maxRecDepth 10000
abbrev cfgOk (c : Cfg) : Prop := 1 ≤ c.f ∧ c.f ≤ 3 ∧ 1 ≤ c.room ∧ c.room ≤ 256 ∧ 6 ≤ c.patience ∧ c.patience ≤ 100
theorem ite_eq_not {α : Type} {p q : Prop} [Decidable p] [Decidable q] {a b : α} (h : p ↔ ¬ q) : (if p then a else b) = if q then b else a := by
 by_cases hq : q
 ·rw [if_neg (fun hp => h.1 hp hq), if_pos hq]
 ·rw [if_pos (h.2 hq), if_neg hq]
theorem e_core_CheckConfig (c : Cfg) : runFn T n (d + 1) 107 [.dat (encCfg c)] [] = some (.dat (di (if cfgOk c then 0 else 1)), []) := by
 rw [runFn_succ]
 simp [T, xf_core_CheckConfig]
 exact ite_eq_not (by unfold cfgOk; omega)
theorem e_ref07_Config (c : Cfg) : runFn T n (d + 1) 64 [.dat (encCfg c)] [] = some (.dat (.bool (decide (cfgOk c))), []) := by
 rw [runFn_succ]
 simp [T, xf_ref07_Config, Bool.and_assoc]
theorem e_ref09_CheckConfig (c : Cfg) : runFn T n (d + 2) 62 [.dat (encCfg c)] [] = some (.dat (di (if cfgOk c then 0 else 1)), []) := by
 have h := e_ref07_Config (n := n) (d := d) c
 rw [runFn_succ]
 by_cases hc : cfgOk c
 ·rw [decide_eq_true hc] at h
  simp only [if_pos hc]
  simp [T, xf_ref09_CheckConfig, h]
 ·rw [decide_eq_false hc] at h
  simp only [if_neg hc]
  simp [T, xf_ref09_CheckConfig, h]
theorem wrap_small {x : Int} (h : -9223372036854775808 ≤ x ∧ x ≤ 9223372036854775807) : IntKind.wrap .i64 x = x := by
 simp [IntKind.wrap, IntKind.bits, IntKind.signed]; omega
def nodesOf (c : Cfg) : Int := if cfgOk c then 2 * c.f + 1 else 0
theorem e_core_Nodes (c : Cfg) : runFn T n (d + 2) 80 [.dat (encCfg c)] [] = some (.dat (di (nodesOf c)), []) := by
 have h := e_core_CheckConfig (n := n) (d := d) c
 rw [runFn_succ]
 unfold nodesOf
 by_cases hc : cfgOk c
 ·simp only [if_pos hc] at h ⊢
  have w1 := wrap_small (x := 2 * c.f) (by unfold cfgOk at hc; omega)
  have w2 := wrap_small (x := 2 * c.f + 1) (by unfold cfgOk at hc; omega)
  simp [T, xf_core_Nodes, h, w1, w2]
 ·simp only [if_neg hc] at h ⊢
  simp [T, xf_core_Nodes, h]
theorem e_ref09_Nodes (c : Cfg) : runFn T n (d + 3) 69 [.dat (encCfg c)] [] = some (.dat (di (nodesOf c)), []) := by
 have h := e_ref09_CheckConfig (n := n) (d := d) c
 rw [runFn_succ]
 unfold nodesOf
 by_cases hc : cfgOk c
 ·simp only [if_pos hc] at h ⊢
  have w1 := wrap_small (x := 2 * c.f) (by unfold cfgOk at hc; omega)
  have w2 := wrap_small (x := 2 * c.f + 1) (by unfold cfgOk at hc; omega)
  simp [T, xf_ref09_Nodes, h, w1, w2]
 ·simp only [if_neg hc] at h ⊢
  simp [T, xf_ref09_Nodes, h]
def primaryOf (c : Cfg) (v : Int) : Int := if cfgOk c ∧ 0 ≤ v ∧ v ≤ 4294967296 then v.tmod (2 * c.f + 1) else -1
theorem e_core_Primary (c : Cfg) (v : Int) : runFn T n (d + 3) 132 [.dat (encCfg c), .dat (di v)] [] = some (.dat (di (primaryOf c v)), []) := by
 have h := e_core_CheckConfig (n := n) (d := d + 1) c
 have h2 := e_core_Nodes (n := n) (d := d) c
 rw [runFn_succ]
 unfold primaryOf nodesOf at *
 by_cases hc : cfgOk c
 ·simp only [if_pos hc] at h h2
  have w3 : 2 * c.f + 1 ≠ 0 := by unfold cfgOk at hc; omega
  by_cases hv : v < 0 ∨ 4294967296 < v
  ·rw [if_neg (by omega)]
   simp [T, xf_core_Primary, h, h2, hv]
  ·rw [if_pos ⟨hc, by omega⟩]
   simp [T, xf_core_Primary, h, h2, hv, w3]
 ·simp only [if_neg hc] at h h2
  rw [if_neg (fun h => hc h.1)]
  simp [T, xf_core_Primary, h]
def leads (c : Cfg) (s : State) : Bool := decide (s.self = s.view.tmod (2 * c.f + 1))
theorem e_core_leads (c : Cfg) (s : State) (hc : cfgOk c) : runFn T n (d + 1) 114 [.dat (encCfg c), .dat (encS s)] [] = some (.dat (.bool (leads c s)), []) := by
 have w1 := wrap_small (x := 2 * c.f) (by unfold cfgOk at hc; omega)
 have w2 := wrap_small (x := 2 * c.f + 1) (by unfold cfgOk at hc; omega)
 have w3 : 2 * c.f + 1 ≠ 0 := by unfold cfgOk at hc; omega
 rw [runFn_succ]
 simp [T, xf_core_leads, w1, w2, w3, leads]
theorem e_ledger_Check (o : LOp) : runFn T n (d + 1) 147 [.dat (encOp o)] [] = some (.dat (di (opErr o)), []) := by
 rw [runFn_succ]
 simp [T, xf_ledger_Check]
 unfold opErr
 by_cases h1 : o.kind = 1
 ·simp [h1]
  split <;> first | rfl | (split <;> simp_all <;> omega)
 ·by_cases h3 : o.kind = 3
  ·simp [h3]
  ·by_cases h2 : o.kind = 2
   ·simp [h2]
    by_cases hs : o.slot = 0
    ·simp [hs]; split <;> simp_all <;> omega
    ·simp [hs]
   ·by_cases h4 : o.kind = 4
    ·simp [h4]
    ·simp [h1, h2, h3, h4]
theorem e_ref04_Check (o : LOp) : runFn T n (d + 1) 175 [.dat (encOp o)] [] = some (.dat (di (opErr o)), []) := by
 rw [runFn_succ]
 simp [T, xf_ref04_Check]
 unfold opErr
 by_cases h1 : o.kind = 1
 ·simp [h1]
  split <;> first | rfl | (split <;> simp_all <;> omega)
 ·by_cases h3 : o.kind = 3
  ·simp [h3]
  ·by_cases h2 : o.kind = 2
   ·simp [h2]
    by_cases hs : o.slot = 0
    ·simp [hs]; split <;> simp_all <;> omega
    ·simp [hs]
   ·by_cases h4 : o.kind = 4
    ·simp [h4]
    ·simp [h1, h2, h3, h4]
theorem e_ref05_Entry (e : Ent) : runFn T n (d + 2) 138 [.dat (encE e)] [] = some (.dat (di (entErr1 e)), []) := by
 have h := e_ref04_Check (n := n) (d := d) e.op
 rw [runFn_succ]
 unfold entErr1
 by_cases h1 : e.client < 0 ∨ 16 ≤ e.client
 ·simp [T, xf_ref05_Entry, h, h1]
 ·by_cases h2 : e.number < 1
  ·simp [T, xf_ref05_Entry, h, h1, h2]
  ·simp [T, xf_ref05_Entry, h, h1, h2]
def logOk (c : Cfg) (l : List Ent) (commit : Int) : Bool := decide (logErr l c.room = 0) && decide (0 ≤ commit) && decide (commit ≤ l.length)
theorem e_oplog_Check (l : List Ent) (room : Int) (hl : l.length ≤ 1048577) : runFn T n (d + 1) 123 [.dat (encLog l), .dat (di room)] [] = some (.tup [.dat (di (logErr l room)), .dat (di (logAt l room))], []) := by
 rw [runFn_succ]
 simp [T, xn_oplog_Check, checkNv, hl]
theorem e_core_logged (c : Cfg) (l : List Ent) (k : Int) (hl : l.length ≤ 1048577) : runFn T n (d + 2) 108 [.dat (encCfg c), .dat (encLog l), .dat (di k)] [] = some (.dat (.bool (logOk c l k)), []) := by
 have h := e_oplog_Check (n := n) (d := d) l c.room hl
 rw [runFn_succ]
 simp [T, xf_core_logged, h, logOk]
end Go.Ax
namespace Go.Ax
set_option linter.all false
variable {n d : Nat}
set_option maxRecDepth 10000
def S_log1 (l : List Ent) (i k : Nat) : St := ⟨[(0, .dat (encLog l)), (5, .dat (di i)), (7, .dat (di k))], []⟩
theorem l_ref05_Log1 (cf : CallF) (l : List Ent) (i : Nat) (hi : i < l.length) (hl : l.length ≤ 1048577) (hn : 1048577 < n) :
  loopAt (XCode.run cf n 0 xf_ref05_Log_b1) (headOf 0 xf_ref05_Log_k1) n (S_log1 l i 0) =
   some (if ∃ x ∈ l.take i, x.client = l[i].client ∧ l[i].number ≤ x.number then (.ret, ⟨[(4, .dat (di 64))], []⟩) else (.exit 2, ⟨[(0, .dat (encLog l)), (5, .dat (di i))], []⟩)) := by
 have hlt : (l.take i).length = i := by rw [List.length_take]; omega
 refine loop_any (S_log1 l i) (l.take i) (fun x => x.client = l[i].client ∧ l[i].number ≤ x.number) _ _ (fun k hk hp => ?_) (fun k hk hp => ?_) ?_ (fun s h => by cases h) (fun s h => by cases h) n (by omega)
 ·have hki : k < i := by omega
  have hkl : k < l.length := by omega
  have hki' : (k : Int) < i := by omega
  rw [List.getElem_take] at hp
  simp [xf_ref05_Log_b1, S_log1, hki, hkl, hi, hp.1, hp.2]
 ·have hki : k < i := by omega
  have hkl : k < l.length := by omega
  have hw := wrap_i k (by omega)
  rw [List.getElem_take] at hp
  refine ⟨S_log1 l i (k + 1), ?_, by simp [xf_ref05_Log_k1, S_log1]⟩
  by_cases h1 : l[k].client = l[i].client
  ·have h2 : ¬ l[i].number ≤ l[k].number := fun h => hp ⟨h1, h⟩
   simp [xf_ref05_Log_b1, S_log1, hki, hkl, hi, h1, h2, hw]
  ·simp [xf_ref05_Log_b1, S_log1, hki, hkl, hi, h1, hw]
 ·rw [hlt]
  simp [xf_ref05_Log_b1, S_log1]
def S_log0 (l : List Ent) (i : Nat) : St := ⟨[(0, .dat (encLog l)), (5, .dat (di i))], []⟩
def logF (pre : List Ent) (x : Ent) : List Ent ⊕ (Ex × St) := if entErr pre x ≠ 0 then .inr (.ret, ⟨[(4, .dat (di (entErr pre x)))], []⟩) else .inl (pre ++ [x])
theorem loopL_log : ∀ (r pre : List Ent), loopL logF (fun _ => (Ex.exit 0, (⟨[], []⟩ : St))) r pre = if logErr1 pre r ≠ 0 then (.ret, ⟨[(4, .dat (di (logErr1 pre r)))], []⟩) else (.exit 0, ⟨[], []⟩)
 | [], pre => by simp [loopL, logErr1]
 | x :: r, pre => by
  simp only [loopL, logF, logErr1]
  by_cases h : entErr pre x = 0
  ·simp only [h, ne_eq, not_true_eq_false, if_false]; exact loopL_log r (pre ++ [x])
  ·simp [h]
theorem l_ref05_Log0 (l : List Ent) (hl : l.length ≤ 1048577) (hn : 1048577 < n) :
  loopAt (XCode.run (runFn T n (d + 2)) n 0 xf_ref05_Log_b0) (headOf 0 xf_ref05_Log_k0) n (S_log0 l 0) = some (if logErr1 [] l ≠ 0 then (.ret, ⟨[(4, .dat (di (logErr1 [] l)))], []⟩) else (.exit 0, ⟨[], []⟩)) := by
 have := loop_list (body := XCode.run (runFn T n (d + 2)) n 0 xf_ref05_Log_b0) (head := headOf 0 xf_ref05_Log_k0) (fun i (_ : List Ent) => S_log0 l i) (fun i pre => pre = l.take i) l logF (fun _ => (.exit 0, ⟨[], []⟩)) (fun i pre hi hI => ?_) (fun pre hI => ?_) l.length n 0 [] (by omega) (by omega) (by simp)
 ·rw [this, List.drop_zero, loopL_log]
 ·subst hI
  have he := e_ref05_Entry (n := n) (d := d) l[i]
  have h1 := l_ref05_Log1 (runFn T n (d + 2)) l i hi hl hn
  simp [S_log1, xf_ref05_Log_k1] at h1
  have hw := wrap_i i (by omega)
  simp only [logF, entErr]
  by_cases h0 : entErr1 l[i] = 0
  ·rw [h0] at he
   by_cases hx : ∃ x ∈ l.take i, x.client = l[i].client ∧ l[i].number ≤ x.number
   ·rw [if_pos hx] at h1
    simp [h0, hx]
    simp [xf_ref05_Log_b0, S_log0, hi, he, xf_ref05_Log_k1, h1]
   ·rw [if_neg hx] at h1
    simp [h0, hx]
    refine ⟨S_log0 l (i + 1), ?_, by simp [xf_ref05_Log_k0, S_log0]⟩
    simp [xf_ref05_Log_b0, S_log0, hi, he, xf_ref05_Log_k1, h1, hw]
  ·simp [h0]
   simp [xf_ref05_Log_b0, S_log0, hi, he, h0]
 ·simp [xf_ref05_Log_b0, S_log0]
theorem e_ref05_Log (l : List Ent) (room : Int) (hl : l.length ≤ 1048577) (hn : 1048577 < n) : runFn T n (d + 3) 103 [.dat (encLog l), .dat (di room)] [] = some (.dat (di (if room < l.length then 60 else logErr1 [] l)), []) := by
 have h := l_ref05_Log0 (d := d) l hl hn
 simp [S_log0, xf_ref05_Log_k0] at h
 rw [runFn_succ]
 by_cases h1 : room < l.length
 ·simp [T, xf_ref05_Log, h1]
 ·by_cases h2 : logErr1 [] l = 0
  ·simp [h2] at h
   simp [T, xf_ref05_Log, h1, xf_ref05_Log_k0, h, h2]
  ·simp [h2] at h
   simp [T, xf_ref05_Log, h1, xf_ref05_Log_k0, h, h2]
theorem e_ref09_logged (c : Cfg) (l : List Ent) (k : Int) (hc : cfgOk c) (hl : l.length ≤ 1048577) (hn : 1048577 < n) : runFn T n (d + 4) 100 [.dat (encCfg c), .dat (encLog l), .dat (di k)] [] = some (.dat (.bool (logOk c l k)), []) := by
 have h := e_ref05_Log (d := d) l c.room hl hn
 have e : (if c.room < l.length then 60 else logErr1 [] l) = logErr l c.room := by
  have h1 : ¬ (c.room < 1 ∨ 256 < c.room) := by unfold cfgOk at hc; omega
  simp only [logErr, h1, if_false]
 rw [e] at h
 rw [runFn_succ]
 simp [T, xf_ref09_logged, h, logOk]
end Go.Ax
namespace Go.Ax
set_option linter.all false
variable {n d : Nat}
set_option maxRecDepth 10000
abbrev boxC (c : Cfg) : Blk := .box [.dat (di c.f), .dat (di c.room), .dat (di c.patience), .dat (.bool c.unguarded)]
abbrev boxS (s : State) : Blk := .box [.dat (di s.self), .dat (di s.status), .dat (di s.view), .dat (di s.last), .dat (encLog s.log), .dat (di s.commit), .dat (encV s.vector), .dat (di s.idle), .dat (encAcks s.acks), .dat (encMarks s.marks), .dat (encBals s.ballots), .dat (encAnss s.answers)]
structure Small (s : State) : Prop where
 log : s.log.length ≤ 1048577
 vector : s.vector.length ≤ 1048577
 acks : s.acks.length ≤ 1048577
 marks : s.marks.length ≤ 1048577
 ballots : s.ballots.length ≤ 1048577
 answers : s.answers.length ≤ 1048577
 blogs : ∀ b ∈ s.ballots, b.log.length ≤ 1048577
 alogs : ∀ b ∈ s.answers, b.log.length ≤ 1048577
def badAck (s : State) (a : Ack) : Bool := decide (a.place < 1) || decide ((s.log.length : Int) < a.place)
def S_norm (s : State) (i : Nat) : St := ⟨[(3, .ptr 0 0), (39, .dat (encAcks s.acks)), (40, .dat (di s.acks.length)), (41, .dat (di i))], [boxS s]⟩
theorem l_core_normal (cf : CallF) (s : State) (hs : Small s) (hn : 1048577 < n) :
  loopAt (XCode.run cf n 0 xf_core_normal_b0) (headOf 0 xf_core_normal_k0) n (S_norm s 0) = some ((s.acks.find? (badAck s)).elim (.exit 0, ⟨[(3, .ptr 0 0)], [boxS s]⟩) (fun a => (.ret, ⟨[(4, .dat (.bool false))], [boxS s, .box [.dat (di a.node), .dat (du a.draw.hi), .dat (du a.draw.lo), .dat (di a.place)]]⟩))) := by
 have hl := hs.acks
 refine loop_find (S_norm s) s.acks (badAck s) (fun a => (.ret, ⟨[(4, .dat (.bool false))], [boxS s, .box [.dat (di a.node), .dat (du a.draw.hi), .dat (du a.draw.lo), .dat (di a.place)]]⟩)) (.exit 0, ⟨[(3, .ptr 0 0)], [boxS s]⟩) (fun i hi hp => ?_) (fun i hi hp => ?_) ?_ (fun x s h => by simp at h) (fun s h => by simp at h) n (by omega)
 ·have hi' : (i : Int) < s.acks.length := by omega
  have hp' : s.acks[i].place < 1 ∨ (s.log.length : Int) < s.acks[i].place := by simpa [badAck] using hp
  simp [xf_core_normal_b0, S_norm, hi, hi', hp']
 ·have hi' : (i : Int) < s.acks.length := by omega
  have hw := wrap_i i (by omega)
  have hp' : ¬ (s.acks[i].place < 1 ∨ (s.log.length : Int) < s.acks[i].place) := by simpa [badAck] using hp
  refine ⟨⟨(S_norm s (i + 1)).env, [boxS s, .box [.dat (di s.acks[i].node), .dat (du s.acks[i].draw.hi), .dat (du s.acks[i].draw.lo), .dat (di s.acks[i].place)]]⟩, ?_, by simp [xf_core_normal_k0, S_norm]⟩
  simp [xf_core_normal_b0, S_norm, hi, hi', hp', hw]
 ·simp [xf_core_normal_b0, S_norm]
def normalOk (c : Cfg) (s : State) : Bool := decide (s.last = s.view) && s.marks.isEmpty && s.ballots.isEmpty && s.answers.isEmpty && (if leads c s then (s.acks.find? (badAck s)).isNone && decide (s.idle = 0) else s.acks.isEmpty)
theorem e_core_normal (c : Cfg) (s : State) (hc : cfgOk c) (hs : Small s) (hn : 1048577 < n) : runFn T n (d + 2) 110 [.dat (encCfg c), .dat (encS s)] [] = some (.dat (.bool (normalOk c s)), []) := by
 have hL := e_core_leads (n := n) (d := d) c s hc
 have h0 := l_core_normal (runFn T n (d + 1)) s hs hn
 simp [S_norm, xf_core_normal_k0] at h0
 rw [runFn_succ]
 cases hf : s.acks.find? (badAck s) with
 | none =>
  rw [hf] at h0; simp at h0
  simp [T, xf_core_normal, hL, normalOk, xf_core_normal_k0, h0, hf, dec_len_pos, dec_nil]
  try (cases leads c s <;> simp)
 | some a =>
  rw [hf] at h0; simp at h0
  simp [T, xf_core_normal, hL, normalOk, xf_core_normal_k0, h0, hf, dec_len_pos, dec_nil]
  try (cases leads c s <;> simp)
end Go.Ax
namespace Go.Ax
set_option linter.all false
variable {n d : Nat}
set_option maxRecDepth 10000
abbrev boxB (b : Ballot) : Blk := .box [.dat (di b.node), .dat (du b.draw.hi), .dat (du b.draw.lo), .dat (di b.last), .dat (di b.commit), .dat (encLog b.log)]
abbrev boxA (b : Answer) : Blk := .box [.dat (di b.node), .dat (du b.draw.hi), .dat (du b.draw.lo), .dat (di b.view), .dat (di b.commit), .dat (encLog b.log)]
def badBal (c : Cfg) (s : State) (b : Ballot) : Bool := decide (b.last < 0) || decide (s.view ≤ b.last) || !logOk c b.log b.commit
def S_chg (c : Cfg) (s : State) (i : Nat) : St := ⟨[(2, .ptr 0 0), (3, .ptr 1 0), (45, .dat (encBals s.ballots)), (46, .dat (di s.ballots.length)), (47, .dat (di i))], [boxC c, boxS s]⟩
theorem l_core_changing (c : Cfg) (s : State) (hs : Small s) (hn : 1048577 < n) :
  loopAt (XCode.run (runFn T n (d + 2)) n 0 xf_core_changing_b0) (headOf 0 xf_core_changing_k0) n (S_chg c s 0) = some ((s.ballots.find? (badBal c s)).elim (.exit 0, ⟨[], [boxC c, boxS s]⟩) (fun b => (.ret, ⟨[(4, .dat (.bool false))], [boxC c, boxS s, boxB b]⟩))) := by
 have hl := hs.ballots
 refine loop_find (S_chg c s) s.ballots (badBal c s) (fun b => (.ret, ⟨[(4, .dat (.bool false))], [boxC c, boxS s, boxB b]⟩)) (.exit 0, ⟨[], [boxC c, boxS s]⟩) (fun i hi hp => ?_) (fun i hi hp => ?_) ?_ (fun x s h => by simp at h) (fun s h => by simp at h) n (by omega)
 ·have hi' : (i : Int) < s.ballots.length := by omega
  have hL := e_core_logged (n := n) (d := d) c s.ballots[i].log s.ballots[i].commit (hs.blogs _ (List.getElem_mem hi))
  simp [badBal] at hp
  simp [xf_core_changing_b0, S_chg, hi, hi', hL]
  split <;> (try split) <;> first | rfl | (exfalso; omega) | (exfalso; simp_all; done) | (exfalso; simp_all; omega)
 ·have hi' : (i : Int) < s.ballots.length := by omega
  have hw := wrap_i i (by omega)
  have hL := e_core_logged (n := n) (d := d) c s.ballots[i].log s.ballots[i].commit (hs.blogs _ (List.getElem_mem hi))
  simp [badBal] at hp
  have hp1 : ¬ s.ballots[i].last < 0 := by omega
  have hp2 : ¬ s.view ≤ s.ballots[i].last := by omega
  refine nextK_some ?_
  simp [xf_core_changing_b0, xf_core_changing_k0, S_chg, hi, hi', hL, hw]
  have hq : 0 ≤ s.ballots[i].last ∧ s.ballots[i].last < s.view := hp.1
  simp [hq, hp1, hp2, hp.2, hw]
 ·simp [xf_core_changing_b0, S_chg]
def changingOk (c : Cfg) (s : State) : Bool := !(decide (s.view ≤ s.last) || !s.acks.isEmpty || !s.answers.isEmpty || decide (c.f ≤ ↑s.ballots.length)) && (leads c s || s.ballots.isEmpty) && (s.ballots.find? (badBal c s)).isNone
theorem e_core_changing (c : Cfg) (s : State) (hc : cfgOk c) (hs : Small s) (hn : 1048577 < n) : runFn T n (d + 3) 111 [.dat (encCfg c), .dat (encS s)] [] = some (.dat (.bool (changingOk c s)), []) := by
 have hL := e_core_leads (n := n) (d := d + 1) c s hc
 have h0 := l_core_changing (d := d) c s hs hn
 simp [S_chg, xf_core_changing_k0] at h0
 rw [runFn_succ]
 unfold changingOk
 cases hb : (decide (s.view ≤ s.last) || !s.acks.isEmpty || !s.answers.isEmpty || decide (c.f ≤ ↑s.ballots.length))
 ·cases hf : s.ballots.find? (badBal c s) with
  | none =>
   rw [hf] at h0; simp at h0
   simp [T, xf_core_changing, hL, xf_core_changing_k0, h0, dec_len_pos, dec_nil, hb]
  | some a =>
   rw [hf] at h0; simp at h0
   simp [T, xf_core_changing, hL, xf_core_changing_k0, h0, dec_len_pos, dec_nil, hb]
 ·simp [T, xf_core_changing, dec_len_pos, dec_nil, hb]
def badAns (c : Cfg) (a : Answer) : Bool := decide (a.view < 0) || decide (4294967296 < a.view) || !logOk c a.log a.commit || !decide (a.node = primaryOf c a.view) && !a.log.isEmpty
def S_rec (c : Cfg) (s : State) (i : Nat) : St := ⟨[(2, .ptr 0 0), (60, .dat (encAnss s.answers)), (61, .dat (di s.answers.length)), (62, .dat (di i))], [boxC c]⟩
theorem l_core_recovering (c : Cfg) (s : State) (hs : Small s) (hn : 1048577 < n) :
  loopAt (XCode.run (runFn T n (d + 3)) n 0 xf_core_recovering_b0) (headOf 0 xf_core_recovering_k0) n (S_rec c s 0) = some ((s.answers.find? (badAns c)).elim (.exit 0, ⟨[], [boxC c]⟩) (fun b => (.ret, ⟨[(4, .dat (.bool false))], [boxC c, boxA b]⟩))) := by
 have hl := hs.answers
 refine loop_find (S_rec c s) s.answers (badAns c) (fun b => (.ret, ⟨[(4, .dat (.bool false))], [boxC c, boxA b]⟩)) (.exit 0, ⟨[], [boxC c]⟩) (fun i hi hp => ?_) (fun i hi hp => ?_) ?_ (fun x s h => by simp at h) (fun s h => by simp at h) n (by omega)
 ·have hi' : (i : Int) < s.answers.length := by omega
  have hL := e_core_logged (n := n) (d := d + 1) c s.answers[i].log s.answers[i].commit (hs.alogs _ (List.getElem_mem hi))
  have hP := e_core_Primary (n := n) (d := d) c s.answers[i].view
  simp [badAns] at hp
  cases hb1 : (decide (s.answers[i].view < 0) || decide (4294967296 < s.answers[i].view))
  ·cases hb2 : logOk c s.answers[i].log s.answers[i].commit
   ·rw [hb2] at hL
    simp [xf_core_recovering_b0, S_rec, hi, hi', hL, hP, hb1]
   ·rw [hb2] at hL
    simp [hb2] at hp
    simp at hb1
    have hp' : ¬s.answers[i].node = primaryOf c s.answers[i].view ∧ ¬s.answers[i].log = [] := by
     rcases hp with hp | hp
     ·omega
     ·exact hp
    simp [xf_core_recovering_b0, S_rec, hi, hi', hL, hP, hb1, hp', dec_len_pos]
  ·simp [xf_core_recovering_b0, S_rec, hi, hi', hb1]
 ·have hi' : (i : Int) < s.answers.length := by omega
  have hw := wrap_i i (by omega)
  have hL := e_core_logged (n := n) (d := d + 1) c s.answers[i].log s.answers[i].commit (hs.alogs _ (List.getElem_mem hi))
  have hP := e_core_Primary (n := n) (d := d) c s.answers[i].view
  unfold badAns at hp
  simp only [Bool.or_eq_false_iff] at hp
  obtain ⟨⟨⟨hb1, hb2⟩, hb3⟩, hb4⟩ := hp
  have hb2' : logOk c s.answers[i].log s.answers[i].commit = true := by simpa using hb3
  rw [hb2'] at hL
  refine nextK_some ?_
  simp [xf_core_recovering_b0, xf_core_recovering_k0, S_rec, hi, hi', hL, hP, hw, hb1, hb2, hb4]
  intro h
  simpa [h] using hb4
 ·simp [xf_core_recovering_b0, S_rec]
def recHead (s : State) : Bool := !decide (s.view = 0) || !decide (s.last = 0) || !decide (s.commit = 0) || !decide (s.idle = 0) || !s.log.isEmpty || !s.acks.isEmpty || !s.marks.isEmpty || !s.ballots.isEmpty
def selfDraw (s : State) : Draw := s.vector.getD s.self.toNat ⟨0, 0⟩
def recoverOk (c : Cfg) (s : State) : Bool := !recHead s && !decide (selfDraw s = ⟨0, 0⟩) && (s.answers.find? (badAns c)).isNone
theorem draw_eq (x : Draw) (a b : Int) : x = ⟨a, b⟩ ↔ x.hi = a ∧ x.lo = b := by cases x; simp
theorem e_core_recovering (c : Cfg) (s : State) (hs : Small s) (hv : 0 ≤ s.self ∧ s.self < s.vector.length) (hn : 1048577 < n) : runFn T n (d + 4) 112 [.dat (encCfg c), .dat (encS s)] [] = some (.dat (.bool (recoverOk c s)), []) := by
 have h0 := l_core_recovering (d := d) c s hs hn
 simp [S_rec, xf_core_recovering_k0] at h0
 rw [runFn_succ]
 unfold recoverOk
 cases hb : recHead s <;> unfold recHead at hb
 ·obtain ⟨k, hk⟩ := Int.eq_ofNat_of_zero_le hv.1
  have hk' : k < s.vector.length := by omega
  have e : selfDraw s = s.vector[k] := by simp [selfDraw, hk, List.getD, hk']
  rw [e]
  by_cases hz : s.vector[k] = ⟨0, 0⟩
  ·have hz' := hz
   rw [draw_eq] at hz'
   simp [T, xf_core_recovering, xf_core_recovering_k0, dec_len_pos, dec_nil, hb, hk, hk', hz', hz]
  ·have hz' := hz
   rw [draw_eq] at hz'
   cases hf : s.answers.find? (badAns c) with
   | none =>
    rw [hf] at h0; simp at h0
    simp [T, xf_core_recovering, xf_core_recovering_k0, dec_len_pos, dec_nil, hb, hk, hk', hz', hz, h0]
   | some a =>
    rw [hf] at h0; simp at h0
    simp [T, xf_core_recovering, xf_core_recovering_k0, dec_len_pos, dec_nil, hb, hk, hk', hz', hz, h0]
 ·simp [T, xf_core_recovering, xf_core_recovering_k0, dec_len_pos, dec_nil, hb]
end Go.Ax
namespace Go.Ax
set_option linter.all false
variable {n d : Nat}
set_option maxRecDepth 10000
def vcell : Nat → List Mark → AV
 | _, [] => .nil 195 3 true
 | j, _ :: r => .own j 0 (r.length + 1)
def vblk : List Mark → List Blk
 | [] => []
 | x :: r => [.arr 195 3 true false (encMark x :: r.map encMark)]
abbrev vnils : Blk := .box [.nil 195 3 true, .nil 195 3 true, .nil 195 3 true, .nil 195 3 true]
def vcells (j : Nat) (a b c e : List Mark) : List AV := [vcell j a, vcell (j + (vblk a).length) b, vcell (j + (vblk a).length + (vblk b).length) c, vcell (j + (vblk a).length + (vblk b).length + (vblk c).length) e]
def vheap (a b c e : List Mark) : List Blk := vblk a ++ vblk b ++ vblk c ++ vblk e
def ackM (a : Ack) : Mark := ⟨a.node, a.draw⟩
def balM (a : Ballot) : Mark := ⟨a.node, a.draw⟩
def ansM (a : Answer) : Mark := ⟨a.node, a.draw⟩
theorem wrap1 : IntKind.wrap .i64 1 = 1 := by decide
def S_vot0 (s : State)  (p : List Ack) : St := ⟨[(1, .ptr 0 0), (2, .ptr 1 0), (3, .ptr 2 0), (13, .dat (encAcks s.acks)), (14, .dat (di s.acks.length)), (15, .dat (di p.length))], boxS s :: vnils :: .box (vcells 3  (p.map ackM) [] [] []) :: vheap  (p.map ackM) [] [] []⟩
theorem l_core_voters0 (cf : CallF) (s : State) (hs : Small s) (hn : 1048577 < n)  :
  loopAt (XCode.run cf n 0 xf_core_voters_b0) (headOf 0 xf_core_voters_k0) n (S_vot0 s []) = some (.exit 0, ⟨[(1, .ptr 0 0), (2, .ptr 1 0), (3, .ptr 2 0)], (S_vot0 s s.acks).H⟩) := by
 have hl := hs.acks
 refine loop_pre (S_vot0 s) s.acks _ (fun p v r hl => ?_) ?_ (fun s h => by simp at h) n (by omega)
 ·have hx : (p.length : Int) < p.length + (r.length + 1) := by omega
  have hp : p.length ≤ 1048577 := by have : s.acks.length = p.length + (r.length + 1) := (by simp [hl]); omega
  have hw := wrap_i p.length (by omega)
  have hL : p.length + 1 ≤ LIM := by simp only [LIM]; omega
  cases p with
  | nil => simp [xf_core_voters_b0, xf_core_voters_k0, S_vot0, vcells, vcell, vheap, vblk, ackM, hl, hx, wrap1]
  | cons x p =>
   simp at hw hL hx
   (simp [xf_core_voters_b0, xf_core_voters_k0, S_vot0, vcells, vcell, vheap, vblk, ackM, hl, hw, hL, hx]; omega)
 ·cases h : s.acks <;> simp [xf_core_voters_b0, S_vot0, vcells, vcell, vheap, vblk, ackM, h]
def S_vot1 (s : State) (m0 : List Mark) (p : List Mark) : St := ⟨[(1, .ptr 0 0), (2, .ptr 1 0), (3, .ptr 2 0), (31, .dat (encMarks s.marks)), (32, .dat (di s.marks.length)), (33, .dat (di p.length))], boxS s :: vnils :: .box (vcells 3 m0 (p.map id) [] []) :: vheap m0 (p.map id) [] []⟩
theorem l_core_voters1 (cf : CallF) (s : State) (hs : Small s) (hn : 1048577 < n) (m0 : List Mark) :
  loopAt (XCode.run cf n 0 xf_core_voters_b1) (headOf 0 xf_core_voters_k1) n (S_vot1 s m0 []) = some (.exit 2, ⟨[(1, .ptr 0 0), (2, .ptr 1 0), (3, .ptr 2 0)], (S_vot1 s m0 s.marks).H⟩) := by
 have hl := hs.marks
 refine loop_pre (S_vot1 s m0) s.marks _ (fun p v r hl => ?_) ?_ (fun s h => by simp at h) n (by omega)
 ·have hx : (p.length : Int) < p.length + (r.length + 1) := by omega
  have hp : p.length ≤ 1048577 := by have : s.marks.length = p.length + (r.length + 1) := (by simp [hl]); omega
  have hw := wrap_i p.length (by omega)
  have hL : p.length + 1 ≤ LIM := by simp only [LIM]; omega
  cases p with
  | nil => cases m0 <;> simp [xf_core_voters_b1, xf_core_voters_k1, S_vot1, vcells, vcell, vheap, vblk, id, hl, hx, wrap1]
  | cons x p =>
   simp at hw hL hx
   cases m0 <;> (simp [xf_core_voters_b1, xf_core_voters_k1, S_vot1, vcells, vcell, vheap, vblk, id, hl, hw, hL, hx]; omega)
 ·cases h : s.marks <;> cases m0 <;> simp [xf_core_voters_b1, S_vot1, vcells, vcell, vheap, vblk, id, h]
def S_vot2 (s : State) (m0 : List Mark) (m1 : List Mark) (p : List Ballot) : St := ⟨[(1, .ptr 0 0), (2, .ptr 1 0), (3, .ptr 2 0), (49, .dat (encBals s.ballots)), (50, .dat (di s.ballots.length)), (51, .dat (di p.length))], boxS s :: vnils :: .box (vcells 3 m0 m1 (p.map balM) []) :: vheap m0 m1 (p.map balM) []⟩
theorem l_core_voters2 (cf : CallF) (s : State) (hs : Small s) (hn : 1048577 < n) (m0 : List Mark) (m1 : List Mark) :
  loopAt (XCode.run cf n 0 xf_core_voters_b2) (headOf 0 xf_core_voters_k2) n (S_vot2 s m0 m1 []) = some (.exit 4, ⟨[(1, .ptr 0 0), (2, .ptr 1 0), (3, .ptr 2 0)], (S_vot2 s m0 m1 s.ballots).H⟩) := by
 have hl := hs.ballots
 refine loop_pre (S_vot2 s m0 m1) s.ballots _ (fun p v r hl => ?_) ?_ (fun s h => by simp at h) n (by omega)
 ·have hx : (p.length : Int) < p.length + (r.length + 1) := by omega
  have hp : p.length ≤ 1048577 := by have : s.ballots.length = p.length + (r.length + 1) := (by simp [hl]); omega
  have hw := wrap_i p.length (by omega)
  have hL : p.length + 1 ≤ LIM := by simp only [LIM]; omega
  cases p with
  | nil => cases m0 <;> cases m1 <;> simp [xf_core_voters_b2, xf_core_voters_k2, S_vot2, vcells, vcell, vheap, vblk, balM, hl, hx, wrap1]
  | cons x p =>
   simp at hw hL hx
   cases m0 <;> cases m1 <;> (simp [xf_core_voters_b2, xf_core_voters_k2, S_vot2, vcells, vcell, vheap, vblk, balM, hl, hw, hL, hx]; omega)
 ·cases h : s.ballots <;> cases m0 <;> cases m1 <;> simp [xf_core_voters_b2, S_vot2, vcells, vcell, vheap, vblk, balM, h]
def S_vot3 (s : State) (m0 : List Mark) (m1 : List Mark) (m2 : List Mark) (p : List Answer) : St := ⟨[(2, .ptr 0 0), (3, .ptr 1 0), (67, .dat (encAnss s.answers)), (68, .dat (di s.answers.length)), (69, .dat (di p.length))], vnils :: .box (vcells 2 m0 m1 m2 (p.map ansM) ) :: vheap m0 m1 m2 (p.map ansM) ⟩
theorem l_core_voters3 (cf : CallF) (s : State) (hs : Small s) (hn : 1048577 < n) (m0 : List Mark) (m1 : List Mark) (m2 : List Mark) :
  loopAt (XCode.run cf n 0 xf_core_voters_b3) (headOf 0 xf_core_voters_k3) n (S_vot3 s m0 m1 m2 []) = some (.exit 6, ⟨[(2, .ptr 0 0), (3, .ptr 1 0)], (S_vot3 s m0 m1 m2 s.answers).H⟩) := by
 have hl := hs.answers
 refine loop_pre (S_vot3 s m0 m1 m2) s.answers _ (fun p v r hl => ?_) ?_ (fun s h => by simp at h) n (by omega)
 ·have hx : (p.length : Int) < p.length + (r.length + 1) := by omega
  have hp : p.length ≤ 1048577 := by have : s.answers.length = p.length + (r.length + 1) := (by simp [hl]); omega
  have hw := wrap_i p.length (by omega)
  have hL : p.length + 1 ≤ LIM := by simp only [LIM]; omega
  cases p with
  | nil => cases m0 <;> cases m1 <;> cases m2 <;> simp [xf_core_voters_b3, xf_core_voters_k3, S_vot3, vcells, vcell, vheap, vblk, ansM, hl, hx, wrap1]
  | cons x p =>
   simp at hw hL hx
   cases m0 <;> cases m1 <;> cases m2 <;> (simp [xf_core_voters_b3, xf_core_voters_k3, S_vot3, vcells, vcell, vheap, vblk, ansM, hl, hw, hL, hx]; omega)
 ·cases h : s.answers <;> cases m0 <;> cases m1 <;> cases m2 <;> simp [xf_core_voters_b3, S_vot3, vcells, vcell, vheap, vblk, ansM, h]
end Go.Ax
namespace Go.Ax
set_option linter.all false
variable {n d : Nat}
set_option maxRecDepth 10000
set_option maxHeartbeats 4000000
def votersOf (s : State) : Dat := .agg [encMarks (s.acks.map ackM), encMarks s.marks, encMarks (s.ballots.map balM), encMarks (s.answers.map ansM)]
theorem vsplit (m : List Mark) : (m = [] ∧ (∀ j, vcell j m = .nil 195 3 true) ∧ vblk m = []) ∨ (m ≠ [] ∧ (∀ j, vcell j m = .own j 0 m.length) ∧ vblk m = [.arr 195 3 true false (m.map encMark)]) := by
 cases m with
 | nil => exact .inl ⟨rfl, fun _ => rfl, rfl⟩
 | cons x r => exact .inr ⟨by simp, fun _ => rfl, rfl⟩
theorem vcell_nil (j : Nat) : vcell j [] = .nil 195 3 true := rfl
theorem vblk_nil : vblk [] = [] := rfl
theorem e_core_voters (s : State) (hs : Small s) (hn : 1048577 < n) : runFn T n (d + 1) 139 [.dat (encS s)] [] = some (.dat (votersOf s), []) := by
 have h0 := l_core_voters0 (runFn T n d) s hs hn
 have h1 := l_core_voters1 (runFn T n d) s hs hn (s.acks.map ackM)
 have h2 := l_core_voters2 (runFn T n d) s hs hn (s.acks.map ackM) s.marks
 have h3 := l_core_voters3 (runFn T n d) s hs hn (s.acks.map ackM) s.marks (s.ballots.map balM)
 unfold votersOf
 simp only [S_vot0, S_vot1, S_vot2, S_vot3, List.map_nil, List.map_id, xf_core_voters_k0, xf_core_voters_k1, xf_core_voters_k2, xf_core_voters_k3, vcells, vheap, vcell_nil, vblk_nil] at h0 h1 h2 h3
 rw [runFn_succ]
 have hm : ∃ m, s.marks = m := ⟨_, rfl⟩
 generalize s.acks.map ackM = m0 at h0 h1 h2 h3 ⊢
 generalize s.ballots.map balM = m2 at h0 h1 h2 h3 ⊢
 generalize s.answers.map ansM = m3 at h0 h1 h2 h3 ⊢
 rcases vsplit m0 with ⟨z0, c0, b0⟩ | ⟨z0, c0, b0⟩ <;> rcases vsplit s.marks with ⟨z1, c1, b1⟩ | ⟨z1, c1, b1⟩ <;> rcases vsplit m2 with ⟨z2, c2, b2⟩ | ⟨z2, c2, b2⟩ <;> rcases vsplit m3 with ⟨z3, c3, b3⟩ | ⟨z3, c3, b3⟩ <;>
  simp [c0, c1, c2, c3, b0, b1, b2, b3] at h0 h1 h2 h3 <;>
  simp [T, xf_core_voters, xf_core_voters_k0, xf_core_voters_k1, xf_core_voters_k2, xf_core_voters_k3, h0, h1, h2, h3] <;> (try simp [z0, z1, z2, z3])
end Go.Ax
namespace Go.Ax
set_option linter.all false
variable {n d : Nat}
set_option maxRecDepth 10000
set_option maxHeartbeats 1000000
abbrev boxM (a : Mark) : Blk := .box [.dat (di a.node), .dat (du a.draw.hi), .dat (du a.draw.lo)]
def badV (s : State) (last : Int) (m : Mark) : Bool := decide (m.node ≤ last) || decide ((s.vector.length : Int) ≤ m.node) || decide (m.node = s.self) || !decide (s.vector.getD m.node.toNat ⟨0, 0⟩ = m.draw)
def firstBad (s : State) : Int → List Mark → Option Mark
 | _, [] => none
 | a, m :: r => if badV s a m = true then some m else firstBad s m.node r
theorem loopL_voted (s : State) (e : Mark → Ex × St) (fin : Ex × St) : ∀ (l : List Mark) (a : Int), loopL (fun a m => if badV s a m = true then .inr (e m) else .inl m.node) (fun _ => fin) l a = (firstBad s a l).elim fin e
 | [], a => rfl
 | x :: r, a => by
  simp only [loopL, firstBad]
  cases h : badV s a x
  ·simp only [Bool.false_eq_true, if_false]; exact loopL_voted s e fin r x.node
  ·simp
def S_vi (s : State) (j : Int) (m : List Mark) (i : Nat) (a : Int) : St := ⟨[(1, .ptr 0 0), (3, .dat (.bool true)), (6, .dat (di a)), (10, .dat (votersOf s)), (11, .dat (di j)), (14, .dat (encMarks m)), (15, .dat (di m.length)), (16, .dat (di i))], [boxS s]⟩
theorem l_core_voted1 (cf : CallF) (s : State) (j : Int) (m : List Mark) (hm : m.length ≤ 1048577) (hn : 1048577 < n) :
  loopAt (XCode.run cf n 0 xf_core_voted_b1) (headOf 0 xf_core_voted_k1) n (S_vi s j m 0 (-1)) =
   some ((firstBad s (-1) m).elim (.exit 2, ⟨[(1, .ptr 0 0), (3, .dat (.bool true)), (10, .dat (votersOf s)), (11, .dat (di j))], [boxS s]⟩) (fun x => (.exit 0, ⟨[(3, .dat (.bool false))], [boxS s, boxM x]⟩))) := by
 have := loop_list (body := XCode.run cf n 0 xf_core_voted_b1) (head := headOf 0 xf_core_voted_k1) (fun i a => S_vi s j m i a) (fun _ a => -1 ≤ a) m
  (fun a x => if badV s a x = true then .inr (.exit 0, ⟨[(3, .dat (.bool false))], [boxS s, boxM x]⟩) else .inl x.node) (fun _ => (.exit 2, ⟨[(1, .ptr 0 0), (3, .dat (.bool true)), (10, .dat (votersOf s)), (11, .dat (di j))], [boxS s]⟩))
  (fun i a hi hI => ?_) (fun a hI => ?_) m.length n 0 (-1) (by omega) (by omega) (by simp)
 ·rw [this, loopL_voted, List.drop_zero]
 ·have hi' : (i : Int) < m.length := by omega
  have hw := wrap_i i (by omega)
  cases hb : badV s a m[i]
  ·simp only [Bool.false_eq_true, if_false]
   unfold badV at hb
   simp only [Bool.or_eq_false_iff, decide_eq_false_iff_not] at hb
   obtain ⟨⟨⟨b1, b2⟩, b3⟩, b4⟩ := hb
   refine ⟨by omega, nextK_some ?_⟩
   obtain ⟨k, hk⟩ := Int.eq_ofNat_of_zero_le (show 0 ≤ m[i].node by omega)
   have hk' : k < s.vector.length := by omega
   have b4' : s.vector[k] = m[i].draw := by simpa [hk, List.getD, hk'] using b4
   have hb' : (decide ((k : Int) ≤ a) || decide (s.vector.length ≤ k) || decide ((k : Int) = s.self)) = false := by rw [← hk]; simp [b1, b3, hk']
   simp [xf_core_voted_b1, xf_core_voted_k1, S_vi, hi, hi', hw, hk, hk', b4', hb']
  ·simp only [if_true]
   refine ⟨?_, fun s h => by simp at h⟩
   cases hb' : (decide (m[i].node ≤ a) || decide ((s.vector.length : Int) ≤ m[i].node) || decide (m[i].node = s.self))
   ·have hb'' := hb'
    simp only [Bool.or_eq_false_iff, decide_eq_false_iff_not] at hb''
    obtain ⟨⟨b1, b2⟩, b3⟩ := hb''
    obtain ⟨k, hk⟩ := Int.eq_ofNat_of_zero_le (show 0 ≤ m[i].node by omega)
    have hk' : k < s.vector.length := by omega
    have b4 : ¬ s.vector[k] = m[i].draw := by
     unfold badV at hb
     rw [hb'] at hb
     simpa [hk, List.getD, hk'] using hb
    have hb' : (decide ((k : Int) ≤ a) || decide (s.vector.length ≤ k) || decide ((k : Int) = s.self)) = false := by rw [← hk]; simp [b1, b3, hk']
    have b5 : s.vector[k].hi = m[i].draw.hi → ¬ s.vector[k].lo = m[i].draw.lo := fun h1 h2 => b4 (by cases ha : s.vector[k]; cases hb : m[i].draw; simp_all)
    simp [xf_core_voted_b1, xf_core_voted_k1, S_vi, hi, hi', hw, hk, hk', hb']
    rw [if_pos (by
     by_cases h1 : s.vector[k].hi = m[i].draw.hi
     ·exact .inr (b5 h1)
     ·exact .inl h1)]
    simp [hk]
   ·simp [xf_core_voted_b1, xf_core_voted_k1, S_vi, hi, hi', hw, hb']
 ·refine ⟨?_, fun s h => by simp at h⟩
  simp [xf_core_voted_b1, S_vi]
theorem wrap2 : IntKind.wrap .i64 2 = 2 := by decide
theorem wrap3 : IntKind.wrap .i64 3 = 3 := by decide
theorem wrap4 : IntKind.wrap .i64 4 = 4 := by decide
def mkList (s : State) : List (List Mark) := [s.acks.map ackM, s.marks, s.ballots.map balM, s.answers.map ansM]
def votedOk (s : State) : Bool := (mkList s).all fun m => (firstBad s (-1) m).isNone
def S_vo (s : State) (j : Nat) : St := ⟨[(1, .ptr 0 0), (3, .dat (.bool true)), (10, .dat (votersOf s)), (11, .dat (di j))], [boxS s]⟩
theorem o_core_voted (cf : CallF) (s : State) (hs : Small s) (hn : 1048577 < n) (j : Nat) (hj : j < (mkList s).length) :
  XCode.run cf n 0 xf_core_voted_b0 (S_vo s j) = some ((firstBad s (-1) (mkList s)[j]).elim (.normal, S_vo s (j + 1)) (fun x => (.exit 0, ⟨[(3, .dat (.bool false))], [boxS s, boxM x]⟩))) := by
 have hl : (mkList s)[j].length ≤ 1048577 := by
  match j, hj with
  | 0, _ => simpa [mkList] using hs.acks
  | 1, _ => simpa [mkList] using hs.marks
  | 2, _ => simpa [mkList] using hs.ballots
  | 3, _ => simpa [mkList] using hs.answers
  | j + 4, h => exact absurd h (by simp [mkList])
 have h0 := l_core_voted1 cf s j (mkList s)[j] hl hn
 match j, hj with
 | 0, _ =>
  cases hf : firstBad s (-1) (mkList s)[0] with
  | none =>
   rw [hf] at h0; simp [S_vi, votersOf, mkList, xf_core_voted_k1] at h0
   simp [xf_core_voted_b0, xf_core_voted_k1, S_vo, votersOf, h0, wrap1]
  | some x =>
   rw [hf] at h0; simp [S_vi, votersOf, mkList, xf_core_voted_k1] at h0
   simp [xf_core_voted_b0, xf_core_voted_k1, S_vo, votersOf, h0, wrap1]
 | 1, _ =>
  cases hf : firstBad s (-1) (mkList s)[1] with
  | none =>
   rw [hf] at h0; simp [S_vi, votersOf, mkList, xf_core_voted_k1] at h0
   simp [xf_core_voted_b0, xf_core_voted_k1, S_vo, votersOf, h0, wrap2, wrap3, wrap4]
  | some x =>
   rw [hf] at h0; simp [S_vi, votersOf, mkList, xf_core_voted_k1] at h0
   simp [xf_core_voted_b0, xf_core_voted_k1, S_vo, votersOf, h0]
 | 2, _ =>
  cases hf : firstBad s (-1) (mkList s)[2] with
  | none =>
   rw [hf] at h0; simp [S_vi, votersOf, mkList, xf_core_voted_k1] at h0
   simp [xf_core_voted_b0, xf_core_voted_k1, S_vo, votersOf, h0, wrap2, wrap3, wrap4]
  | some x =>
   rw [hf] at h0; simp [S_vi, votersOf, mkList, xf_core_voted_k1] at h0
   simp [xf_core_voted_b0, xf_core_voted_k1, S_vo, votersOf, h0]
 | 3, _ =>
  cases hf : firstBad s (-1) (mkList s)[3] with
  | none =>
   rw [hf] at h0; simp [S_vi, votersOf, mkList, xf_core_voted_k1] at h0
   simp [xf_core_voted_b0, xf_core_voted_k1, S_vo, votersOf, h0, wrap2, wrap3, wrap4]
  | some x =>
   rw [hf] at h0; simp [S_vi, votersOf, mkList, xf_core_voted_k1] at h0
   simp [xf_core_voted_b0, xf_core_voted_k1, S_vo, votersOf, h0]
 | j + 4, h => exact absurd h (by simp [mkList])
theorem loopL_voted2 (s : State) (e : Mark → Ex × St) (fin : Ex × St) : ∀ l : List (List Mark), loopL (fun (_ : Unit) m => match firstBad s (-1) m with
  | some x => .inr (e x)
  | none => .inl ()) (fun _ => fin) l () = (l.findSome? (firstBad s (-1))).elim fin e
 | [] => rfl
 | m :: r => by
  simp only [loopL, List.findSome?_cons]
  cases h : firstBad s (-1) m
  ·exact loopL_voted2 s e fin r
  ·rfl
theorem l_core_voted0 (cf : CallF) (s : State) (hs : Small s) (hn : 1048577 < n) :
  loopAt (XCode.run cf n 0 xf_core_voted_b0) (headOf 0 xf_core_voted_k0) n (S_vo s 0) = some (((mkList s).findSome? (firstBad s (-1))).elim (.exit 0, ⟨[(3, .dat (.bool true))], [boxS s]⟩) (fun x => (.exit 0, ⟨[(3, .dat (.bool false))], [boxS s, boxM x]⟩))) := by
 have := loop_list (body := XCode.run cf n 0 xf_core_voted_b0) (head := headOf 0 xf_core_voted_k0) (fun i (_ : Unit) => S_vo s i) (fun _ _ => True) (mkList s)
  (fun _ m => match firstBad s (-1) m with
  | some x => .inr (.exit 0, ⟨[(3, .dat (.bool false))], [boxS s, boxM x]⟩)
  | none => .inl ()) (fun _ => (.exit 0, ⟨[(3, .dat (.bool true))], [boxS s]⟩)) (fun i _ hi _ => ?_) (fun _ _ => ⟨?_, fun s h => by simp at h⟩) 4 n 0 () (by simp [mkList]) (by omega) trivial
 ·rw [this, List.drop_zero, loopL_voted2]
 ·have h := o_core_voted cf s hs hn i hi
  cases hf : firstBad s (-1) (mkList s)[i] with
  | none =>
   rw [hf] at h
   exact ⟨trivial, S_vo s (i + 1), h, by simp [xf_core_voted_k0, S_vo]⟩
  | some x =>
   rw [hf] at h
   exact ⟨h, fun s h => by simp at h⟩
 ·simp [xf_core_voted_b0, S_vo, mkList]
theorem votedOk_iff (s : State) : votedOk s = ((mkList s).findSome? (firstBad s (-1))).isNone := by
 rw [Bool.eq_iff_iff]
 simp [votedOk, List.findSome?_eq_none_iff]
theorem e_core_voted (s : State) (hs : Small s) (hn : 1048577 < n) : runFn T n (d + 2) 109 [.dat (encS s)] [] = some (.dat (.bool (votedOk s)), []) := by
 have h0 := l_core_voted0 (runFn T n (d + 1)) s hs hn
 have h1 := e_core_voters (n := n) (d := d) s hs hn
 rw [runFn_succ, votedOk_iff]
 cases hf : (mkList s).findSome? (firstBad s (-1)) with
 | none =>
  rw [hf] at h0; simp [S_vo, xf_core_voted_k0] at h0
  simp [T, xf_core_voted, xf_core_voted_k0, h0, h1]
 | some x =>
  rw [hf] at h0; simp [S_vo, xf_core_voted_k0] at h0
  simp [T, xf_core_voted, xf_core_voted_k0, h0, h1]
end Go.Ax
namespace Go.Ax
set_option linter.all false
variable {n d : Nat}
set_option maxRecDepth 10000
set_option maxHeartbeats 1000000
abbrev encNs (m : List Mark) : Dat := .sl 1 true (m.map fun x => di x.node)
abbrev encDs (m : List Mark) : Dat := .sl 2 true (m.map fun x => encD x.draw)
def S_rv (s : State) (m : List Mark) (i : Nat) : St := ⟨[(1, .dat (di s.vector.length)), (2, .dat (encNs m)), (3, .dat (encDs m)), (4, .ptr 0 0), (9, .dat (di i))], [boxS s]⟩
theorem wrap_nat (q : Nat) (h : q < 2^40) : IntKind.wrap .i64 (q : Int) = q := by
 simp [IntKind.wrap, IntKind.bits, IntKind.signed]; omega
theorem l_ref09_voters (cf : CallF) (s : State) (m : List Mark) (hm : m.length ≤ 1048577) (hn : 1048577 < n) :
  loopAt (XCode.run cf n 0 xf_ref09_voters_b0) (headOf 0 xf_ref09_voters_k0) n (S_rv s m 0) = some ((firstBad s (-1) m).elim (.exit 0, ⟨[], [boxS s]⟩) (fun _ => (.ret, ⟨[(8, .dat (.bool false))], [boxS s]⟩))) := by
 have := loop_list (body := XCode.run cf n 0 xf_ref09_voters_b0) (head := headOf 0 xf_ref09_voters_k0) (fun i (_ : Int) => S_rv s m i) (fun i a => -1 ≤ a ∧ ((i = 0 ∧ a = -1) ∨ (∃ q, ∃ h : q < m.length, i = q + 1 ∧ m[q].node = a ∧ 0 ≤ a))) m
  (fun a x => if badV s a x = true then .inr (.ret, ⟨[(8, .dat (.bool false))], [boxS s]⟩) else .inl x.node) (fun _ => (.exit 0, ⟨[], [boxS s]⟩))
  (fun i a hi hI => ?_) (fun a hI => ?_) m.length n 0 (-1) (by omega) (by omega) (by simp)
 ·rw [this, loopL_voted, List.drop_zero]
 ·have hi' : (i : Int) < m.length := by omega
  have hw := wrap_i i (by omega)
  obtain ⟨hI, hJ⟩ := hI
  cases hb : badV s a m[i]
  ·simp only [Bool.false_eq_true, if_false]
   unfold badV at hb
   simp only [Bool.or_eq_false_iff, decide_eq_false_iff_not] at hb
   obtain ⟨⟨⟨b1, b2⟩, b3⟩, b4⟩ := hb
   refine ⟨⟨by omega, .inr ⟨i, hi, rfl, rfl, by omega⟩⟩, nextK_some ?_⟩
   obtain ⟨k, hk⟩ := Int.eq_ofNat_of_zero_le (show 0 ≤ m[i].node by omega)
   have hk' : k < s.vector.length := by omega
   have hk2 : ¬ s.vector.length ≤ k := by omega
   have b4' : s.vector[k] = m[i].draw := by simpa [hk, List.getD, hk'] using b4
   rw [hk] at b3 b1
   rcases hJ with ⟨rfl, rfl⟩ | ⟨q, hq, rfl, ha, ha0⟩
   ·simp [xf_ref09_voters_b0, xf_ref09_voters_k0, S_rv, hi, hi', hw, hk, hk', hk2, b3, b4', wrap1]
   ·obtain ⟨r, hr⟩ := Int.eq_ofNat_of_zero_le ha0
    rw [hr] at ha b1
    have b1' : ¬ k ≤ r := by omega
    have hwq := wrap_nat q (by omega)
    simp at hw
    have hq1 : (0 : Int) < (q : Int) + 1 ∧ (0 : Int) ≤ (q : Int) + 1 := by omega
    have hi2 : (q : Int) + 1 < m.length := by omega
    simp [xf_ref09_voters_b0, xf_ref09_voters_k0, S_rv, hi, hi', hw, hk, hk', hk2, b3, b4', ha, hq, hwq, b1', hq1, hi2]
  ·simp only [if_true]
   refine ⟨?_, fun s h => by simp at h⟩
   by_cases c1 : m[i].node < 0
   ·simp [xf_ref09_voters_b0, S_rv, hi, hi', c1]
   ·obtain ⟨k, hk⟩ := Int.eq_ofNat_of_zero_le (show 0 ≤ m[i].node by omega)
    by_cases c2 : s.vector.length ≤ k
    ·simp [xf_ref09_voters_b0, S_rv, hi, hi', hk, c2]
    ·by_cases c3 : (k : Int) = s.self
     ·have c3' := eq_true c3
      simp [xf_ref09_voters_b0, S_rv, hi, hi', hk, c2, c3']
     ·have hk' : k < s.vector.length := by omega
      have b0 : m[i].node ≤ a ∨ ¬ s.vector[k] = m[i].draw := by
       unfold badV at hb
       simpa [hk, List.getD, hk', c3, c2] using hb
      have b5 : ¬ s.vector[k] = m[i].draw → s.vector[k].hi = m[i].draw.hi → ¬ s.vector[k].lo = m[i].draw.lo := fun b4 h1 h2 => b4 (by cases ha : s.vector[k]; cases hb : m[i].draw; simp_all)
      rcases hJ with ⟨rfl, rfl⟩ | ⟨q, hq, rfl, ha, ha0⟩
      ·have b4 : ¬ s.vector[k] = m[0].draw := by
        rcases b0 with b0 | b0
        ·omega
        ·exact b0
       have b6 := b5 b4
       simp [xf_ref09_voters_b0, S_rv, hi, hi', hk, hk', c2, c3]
       exact fun h1 h2 => b6 h1.symm h2.symm
      ·obtain ⟨r, hr⟩ := Int.eq_ofNat_of_zero_le ha0
       rw [hr] at ha b0
       rw [hk] at b0
       have hwq := wrap_nat q (by omega)
       have hq1 : (0 : Int) < (q : Int) + 1 ∧ (0 : Int) ≤ (q : Int) + 1 := by omega
       have hi2 : (q : Int) + 1 < m.length := by omega
       by_cases c4 : k ≤ r
       ·simp [xf_ref09_voters_b0, S_rv, hi, hi', hk, hk', c2, c3, ha, hq, hwq, c4, hq1, hi2]
       ·have b4 : ¬ s.vector[k] = m[q + 1].draw := by
         rcases b0 with b0 | b0
         ·omega
         ·exact b0
        have b6 := b5 b4
        simp [xf_ref09_voters_b0, S_rv, hi, hi', hk, hk', c2, c3, ha, hq, hwq, c4, hq1, hi2]
        exact fun h1 h2 => b6 h1.symm h2.symm
 ·refine ⟨?_, fun s h => by simp at h⟩
  simp [xf_ref09_voters_b0, S_rv]
theorem e_ref09_voters (s : State) (m : List Mark) (hm : m.length ≤ 1048577) (hn : 1048577 < n) : runFn T n (d + 1) 137 [.dat (encS s), .dat (di s.vector.length), .dat (encNs m), .dat (encDs m)] [] = some (.dat (.bool (firstBad s (-1) m).isNone), []) := by
 have h0 := l_ref09_voters (runFn T n d) s m hm hn
 simp [S_rv, xf_ref09_voters_k0] at h0
 rw [runFn_succ]
 cases hf : firstBad s (-1) m with
 | none =>
  rw [hf] at h0; simp at h0
  simp [T, xf_ref09_voters, xf_ref09_voters_k0, h0]
 | some x =>
  rw [hf] at h0; simp at h0
  simp [T, xf_ref09_voters, xf_ref09_voters_k0, h0]
end Go.Ax
namespace Go.Ax
set_option linter.all false
variable {n d : Nat}
set_option maxRecDepth 10000
set_option maxHeartbeats 4000000
def S_rvs0 (s : State)  (p : List Ack) : St := ⟨[(1, .dat (di s.vector.length)), (2, .ptr 0 0), (5, .own 1 0 (p.map ackM).length), (6, .own 2 0 0), (7, .own 3 0 0), (8, .own 4 0 0), (9, .own 5 0 (p.map ackM).length), (10, .own 6 0 0), (11, .own 7 0 0), (12, .own 8 0 0), (13, .dat (di p.length))], [boxS s, .arr 3 1 true false ((p.map ackM).map fun x => di x.node), .arr 3 1 true false [], .arr 3 1 true false [], .arr 3 1 true false [], .arr 26 2 true false ((p.map ackM).map fun x => encD x.draw), .arr 26 2 true false [], .arr 26 2 true false [], .arr 26 2 true false []]⟩
theorem l_ref09_votes0 (cf : CallF) (s : State) (hs : Small s) (hn : 1048577 < n)  :
  loopAt (XCode.run cf n 0 xf_ref09_votes_b0) (headOf 0 xf_ref09_votes_k0) n (S_rvs0 s []) = some (.exit 0, ⟨(S_rvs0 s s.acks).env.take 10, (S_rvs0 s s.acks).H⟩) := by
 have hl := hs.acks
 refine loop_pre (S_rvs0 s) s.acks _ (fun p v r hl => ?_) ?_ (fun s h => by simp at h) n (by omega)
 ·have hx : (p.length : Int) < p.length + (r.length + 1) := by omega
  have hp : p.length ≤ 1048577 := by have : s.acks.length = p.length + (r.length + 1) := (by simp [hl]); omega
  have hw := wrap_i p.length (by omega)
  have hL : p.length + 1 ≤ LIM := by simp only [LIM]; omega
  simp at hw
  simp [xf_ref09_votes_b0, xf_ref09_votes_k0, S_rvs0, ackM, hl, hx, hw, hL]
 ·simp [xf_ref09_votes_b0, S_rvs0]
def S_rvs1 (s : State) (m0 : List Mark) (p : List Mark) : St := ⟨[(1, .dat (di s.vector.length)), (2, .ptr 0 0), (5, .own 1 0 m0.length), (6, .own 2 0 (p.map id).length), (7, .own 3 0 0), (8, .own 4 0 0), (9, .own 5 0 m0.length), (10, .own 6 0 (p.map id).length), (11, .own 7 0 0), (12, .own 8 0 0), (14, .dat (di p.length))], [boxS s, .arr 3 1 true false (m0.map fun x => di x.node), .arr 3 1 true false ((p.map id).map fun x => di x.node), .arr 3 1 true false [], .arr 3 1 true false [], .arr 26 2 true false (m0.map fun x => encD x.draw), .arr 26 2 true false ((p.map id).map fun x => encD x.draw), .arr 26 2 true false [], .arr 26 2 true false []]⟩
theorem l_ref09_votes1 (cf : CallF) (s : State) (hs : Small s) (hn : 1048577 < n) (m0 : List Mark) :
  loopAt (XCode.run cf n 0 xf_ref09_votes_b1) (headOf 0 xf_ref09_votes_k1) n (S_rvs1 s m0 []) = some (.exit 2, ⟨(S_rvs1 s m0 s.marks).env.take 10, (S_rvs1 s m0 s.marks).H⟩) := by
 have hl := hs.marks
 refine loop_pre (S_rvs1 s m0) s.marks _ (fun p v r hl => ?_) ?_ (fun s h => by simp at h) n (by omega)
 ·have hx : (p.length : Int) < p.length + (r.length + 1) := by omega
  have hp : p.length ≤ 1048577 := by have : s.marks.length = p.length + (r.length + 1) := (by simp [hl]); omega
  have hw := wrap_i p.length (by omega)
  have hL : p.length + 1 ≤ LIM := by simp only [LIM]; omega
  simp at hw
  simp [xf_ref09_votes_b1, xf_ref09_votes_k1, S_rvs1, id, hl, hx, hw, hL]
 ·simp [xf_ref09_votes_b1, S_rvs1]
def S_rvs2 (s : State) (m0 : List Mark) (m1 : List Mark) (p : List Ballot) : St := ⟨[(1, .dat (di s.vector.length)), (2, .ptr 0 0), (5, .own 1 0 m0.length), (6, .own 2 0 m1.length), (7, .own 3 0 (p.map balM).length), (8, .own 4 0 0), (9, .own 5 0 m0.length), (10, .own 6 0 m1.length), (11, .own 7 0 (p.map balM).length), (12, .own 8 0 0), (15, .dat (di p.length))], [boxS s, .arr 3 1 true false (m0.map fun x => di x.node), .arr 3 1 true false (m1.map fun x => di x.node), .arr 3 1 true false ((p.map balM).map fun x => di x.node), .arr 3 1 true false [], .arr 26 2 true false (m0.map fun x => encD x.draw), .arr 26 2 true false (m1.map fun x => encD x.draw), .arr 26 2 true false ((p.map balM).map fun x => encD x.draw), .arr 26 2 true false []]⟩
theorem l_ref09_votes2 (cf : CallF) (s : State) (hs : Small s) (hn : 1048577 < n) (m0 : List Mark) (m1 : List Mark) :
  loopAt (XCode.run cf n 0 xf_ref09_votes_b2) (headOf 0 xf_ref09_votes_k2) n (S_rvs2 s m0 m1 []) = some (.exit 4, ⟨(S_rvs2 s m0 m1 s.ballots).env.take 10, (S_rvs2 s m0 m1 s.ballots).H⟩) := by
 have hl := hs.ballots
 refine loop_pre (S_rvs2 s m0 m1) s.ballots _ (fun p v r hl => ?_) ?_ (fun s h => by simp at h) n (by omega)
 ·have hx : (p.length : Int) < p.length + (r.length + 1) := by omega
  have hp : p.length ≤ 1048577 := by have : s.ballots.length = p.length + (r.length + 1) := (by simp [hl]); omega
  have hw := wrap_i p.length (by omega)
  have hL : p.length + 1 ≤ LIM := by simp only [LIM]; omega
  simp at hw
  simp [xf_ref09_votes_b2, xf_ref09_votes_k2, S_rvs2, balM, hl, hx, hw, hL]
 ·simp [xf_ref09_votes_b2, S_rvs2]
def S_rvs3 (s : State) (m0 : List Mark) (m1 : List Mark) (m2 : List Mark) (p : List Answer) : St := ⟨[(1, .dat (di s.vector.length)), (2, .ptr 0 0), (5, .own 1 0 m0.length), (6, .own 2 0 m1.length), (7, .own 3 0 m2.length), (8, .own 4 0 (p.map ansM).length), (9, .own 5 0 m0.length), (10, .own 6 0 m1.length), (11, .own 7 0 m2.length), (12, .own 8 0 (p.map ansM).length), (16, .dat (di p.length))], [boxS s, .arr 3 1 true false (m0.map fun x => di x.node), .arr 3 1 true false (m1.map fun x => di x.node), .arr 3 1 true false (m2.map fun x => di x.node), .arr 3 1 true false ((p.map ansM).map fun x => di x.node), .arr 26 2 true false (m0.map fun x => encD x.draw), .arr 26 2 true false (m1.map fun x => encD x.draw), .arr 26 2 true false (m2.map fun x => encD x.draw), .arr 26 2 true false ((p.map ansM).map fun x => encD x.draw)]⟩
theorem l_ref09_votes3 (cf : CallF) (s : State) (hs : Small s) (hn : 1048577 < n) (m0 : List Mark) (m1 : List Mark) (m2 : List Mark) :
  loopAt (XCode.run cf n 0 xf_ref09_votes_b3) (headOf 0 xf_ref09_votes_k3) n (S_rvs3 s m0 m1 m2 []) = some (.exit 6, ⟨(S_rvs3 s m0 m1 m2 s.answers).env.take 10, (S_rvs3 s m0 m1 m2 s.answers).H⟩) := by
 have hl := hs.answers
 refine loop_pre (S_rvs3 s m0 m1 m2) s.answers _ (fun p v r hl => ?_) ?_ (fun s h => by simp at h) n (by omega)
 ·have hx : (p.length : Int) < p.length + (r.length + 1) := by omega
  have hp : p.length ≤ 1048577 := by have : s.answers.length = p.length + (r.length + 1) := (by simp [hl]); omega
  have hw := wrap_i p.length (by omega)
  have hL : p.length + 1 ≤ LIM := by simp only [LIM]; omega
  simp at hw
  simp [xf_ref09_votes_b3, xf_ref09_votes_k3, S_rvs3, ansM, hl, hx, hw, hL]
 ·simp [xf_ref09_votes_b3, S_rvs3]
theorem e_ref09_votes (s : State) (hs : Small s) (hn : 1048577 < n) : runFn T n (d + 2) 101 [.dat (encS s), .dat (di s.vector.length)] [] = some (.dat (.bool (votedOk s)), []) := by
 have h0 := l_ref09_votes0 (runFn T n (d + 1)) s hs hn
 have h1 := l_ref09_votes1 (runFn T n (d + 1)) s hs hn (s.acks.map ackM)
 have h2 := l_ref09_votes2 (runFn T n (d + 1)) s hs hn (s.acks.map ackM) s.marks
 have h3 := l_ref09_votes3 (runFn T n (d + 1)) s hs hn (s.acks.map ackM) s.marks (s.ballots.map balM)
 have v0 := e_ref09_voters (n := n) (d := d) s (s.acks.map ackM) (by simpa using hs.acks) hn
 have v1 := e_ref09_voters (n := n) (d := d) s s.marks hs.marks hn
 have v2 := e_ref09_voters (n := n) (d := d) s (s.ballots.map balM) (by simpa using hs.ballots) hn
 have v3 := e_ref09_voters (n := n) (d := d) s (s.answers.map ansM) (by simpa using hs.answers) hn
 have e : votedOk s = ((firstBad s (-1) (s.acks.map ackM)).isNone && (firstBad s (-1) s.marks).isNone && (firstBad s (-1) (s.ballots.map balM)).isNone && (firstBad s (-1) (s.answers.map ansM)).isNone) := by
  simp [votedOk, mkList, Bool.and_assoc]
 rw [e]
 simp only [S_rvs0, S_rvs1, S_rvs2, S_rvs3, List.map_nil, List.map_id, List.length_nil, Int.natCast_zero, xf_ref09_votes_k0, xf_ref09_votes_k1, xf_ref09_votes_k2, xf_ref09_votes_k3, List.take_succ_cons, List.take_zero] at h0 h1 h2 h3
 rw [runFn_succ]
 generalize s.acks.map ackM = m0 at h0 h1 h2 h3 v0 ⊢
 generalize s.ballots.map balM = m2 at h0 h1 h2 h3 v2 ⊢
 generalize s.answers.map ansM = m3 at h0 h1 h2 h3 v3 ⊢
 generalize (firstBad s (-1) m0).isNone = w0 at v0 ⊢
 generalize (firstBad s (-1) s.marks).isNone = w1 at v1 ⊢
 generalize (firstBad s (-1) m2).isNone = w2 at v2 ⊢
 generalize (firstBad s (-1) m3).isNone = w3 at v3 ⊢
 cases w0 <;> cases w1 <;> cases w2 <;> cases w3 <;> simp [T, xf_ref09_votes, xf_ref09_votes_k0, xf_ref09_votes_k1, xf_ref09_votes_k2, xf_ref09_votes_k3, h0, h1, h2, h3, v0, v1, v2, v3]
end Go.Ax
