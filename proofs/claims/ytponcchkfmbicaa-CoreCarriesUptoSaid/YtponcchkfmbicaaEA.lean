/-
  Small functions, evaluated.
-/
import Derived.Test.YtponcchkfmbicaaXTab
import Derived.Test.YtponcchkfmbicaaXLoop
namespace Go.Ax
set_option linter.all false
variable {n d : Nat}
set_option maxRecDepth 10000
set_option linter.unusedSimpArgs false

abbrev cfgOk (c : Cfg) : Prop := 1 ≤ c.f ∧ c.f ≤ 3 ∧ 1 ≤ c.room ∧ c.room ≤ 256 ∧ 6 ≤ c.patience ∧ c.patience ≤ 100

theorem ite_eq_of_iff {α : Type} {p q : Prop} [Decidable p] [Decidable q] {a b : α} (h : p ↔ q) : (if p then a else b) = if q then a else b := by
  by_cases hp : p
  · rw [if_pos hp, if_pos (h.1 hp)]
  · rw [if_neg hp, if_neg (fun hq => hp (h.2 hq))]
theorem ite_eq_not {α : Type} {p q : Prop} [Decidable p] [Decidable q] {a b : α} (h : p ↔ ¬ q) : (if p then a else b) = if q then b else a := by
  by_cases hq : q
  · rw [if_neg (fun hp => h.1 hp hq), if_pos hq]
  · rw [if_pos (h.2 hq), if_neg hq]

theorem e_core_CheckConfig (c : Cfg) : runFn T n (d + 1) 43 [.dat (encCfg c)] [] = some (.dat (di (if cfgOk c then 0 else 1)), []) := by
  rw [runFn_succ]
  simp [T, xf_core_CheckConfig]
  exact ite_eq_not (by unfold cfgOk; omega)
theorem e_ref07_Config (c : Cfg) : runFn T n (d + 1) 70 [.dat (encCfg c)] [] = some (.dat (.bool (decide (cfgOk c))), []) := by
  rw [runFn_succ]
  simp [T, xf_ref07_Config, Bool.and_assoc]
theorem e_ref09_CheckConfig (c : Cfg) : runFn T n (d + 2) 57 [.dat (encCfg c)] [] = some (.dat (di (if cfgOk c then 0 else 1)), []) := by
  have h := e_ref07_Config (n := n) (d := d) c
  rw [runFn_succ]
  by_cases hc : cfgOk c
  · rw [decide_eq_true hc] at h
    simp only [if_pos hc]
    simp [T, xf_ref09_CheckConfig, h]
  · rw [decide_eq_false hc] at h
    simp only [if_neg hc]
    simp [T, xf_ref09_CheckConfig, h]
theorem wrap_small {x : Int} (h : -9223372036854775808 ≤ x ∧ x ≤ 9223372036854775807) : IntKind.wrap .i64 x = x := by
  simp [IntKind.wrap, IntKind.bits, IntKind.signed]; omega

def nodesOf (c : Cfg) : Int := if cfgOk c then 2 * c.f + 1 else 0
theorem e_core_Nodes (c : Cfg) : runFn T n (d + 2) 37 [.dat (encCfg c)] [] = some (.dat (di (nodesOf c)), []) := by
  have h := e_core_CheckConfig (n := n) (d := d) c
  rw [runFn_succ]
  unfold nodesOf
  by_cases hc : cfgOk c
  · simp only [if_pos hc] at h ⊢
    have w1 := wrap_small (x := 2 * c.f) (by unfold cfgOk at hc; omega)
    have w2 := wrap_small (x := 2 * c.f + 1) (by unfold cfgOk at hc; omega)
    simp [T, xf_core_Nodes, h, w1, w2]
  · simp only [if_neg hc] at h ⊢
    simp [T, xf_core_Nodes, h]
theorem e_ref09_Nodes (c : Cfg) : runFn T n (d + 3) 39 [.dat (encCfg c)] [] = some (.dat (di (nodesOf c)), []) := by
  have h := e_ref09_CheckConfig (n := n) (d := d) c
  rw [runFn_succ]
  unfold nodesOf
  by_cases hc : cfgOk c
  · simp only [if_pos hc] at h ⊢
    have w1 := wrap_small (x := 2 * c.f) (by unfold cfgOk at hc; omega)
    have w2 := wrap_small (x := 2 * c.f + 1) (by unfold cfgOk at hc; omega)
    simp [T, xf_ref09_Nodes, h, w1, w2]
  · simp only [if_neg hc] at h ⊢
    simp [T, xf_ref09_Nodes, h]

def MaxV : Int := 4294967296
def primaryOf (c : Cfg) (v : Int) : Int := if cfgOk c ∧ 0 ≤ v ∧ v ≤ 4294967296 then v.tmod (2 * c.f + 1) else -1
theorem e_core_Primary (c : Cfg) (v : Int) : runFn T n (d + 3) 69 [.dat (encCfg c), .dat (di v)] [] = some (.dat (di (primaryOf c v)), []) := by
  have h := e_core_CheckConfig (n := n) (d := d + 1) c
  have h2 := e_core_Nodes (n := n) (d := d) c
  rw [runFn_succ]
  unfold primaryOf nodesOf at *
  by_cases hc : cfgOk c
  · simp only [if_pos hc] at h h2
    have w3 : 2 * c.f + 1 ≠ 0 := by unfold cfgOk at hc; omega
    by_cases hv : v < 0 ∨ 4294967296 < v
    · rw [if_neg (by omega)]
      simp [T, xf_core_Primary, h, h2, hv]
    · rw [if_pos ⟨hc, by omega⟩]
      simp [T, xf_core_Primary, h, h2, hv, w3]
  · simp only [if_neg hc] at h h2
    rw [if_neg (fun h => hc h.1)]
    simp [T, xf_core_Primary, h]
theorem e_ref09_Primary (c : Cfg) (v : Int) : runFn T n (d + 4) 28 [.dat (encCfg c), .dat (di v)] [] = some (.dat (di (primaryOf c v)), []) := by
  have h := e_ref09_CheckConfig (n := n) (d := d + 1) c
  have h2 := e_ref09_Nodes (n := n) (d := d) c
  rw [runFn_succ]
  unfold primaryOf nodesOf at *
  by_cases hc : cfgOk c
  · simp only [if_pos hc] at h h2
    have w3 : 2 * c.f + 1 ≠ 0 := by unfold cfgOk at hc; omega
    by_cases hv : v < 0 ∨ 4294967296 < v
    · rw [if_neg (by omega)]
      simp [T, xf_ref09_Primary, h, h2, hv]
    · rw [if_pos ⟨hc, by omega⟩]
      simp [T, xf_ref09_Primary, h, h2, hv, w3]
  · simp only [if_neg hc] at h h2
    rw [if_neg (fun h => hc h.1)]
    simp [T, xf_ref09_Primary, h]

/-- Is the replica its view's primary? -/
def leads (c : Cfg) (s : State) : Bool := decide (s.self = s.view.tmod (2 * c.f + 1))
theorem e_core_leads (c : Cfg) (s : State) (hc : cfgOk c) : runFn T n (d + 1) 23 [.dat (encCfg c), .dat (encS s)] [] = some (.dat (.bool (leads c s)), []) := by
  have w1 := wrap_small (x := 2 * c.f) (by unfold cfgOk at hc; omega)
  have w2 := wrap_small (x := 2 * c.f + 1) (by unfold cfgOk at hc; omega)
  have w3 : 2 * c.f + 1 ≠ 0 := by unfold cfgOk at hc; omega
  rw [runFn_succ]
  simp [T, xf_core_leads, w1, w2, w3, leads]

theorem e_ledger_Check (o : LOp) : runFn T n (d + 1) 75 [.dat (encOp o)] [] = some (.dat (di (opErr o)), []) := by
  rw [runFn_succ]
  simp [T, xf_ledger_Check]
  unfold opErr
  by_cases h1 : o.kind = 1
  · simp [h1]
    split <;> first | rfl | (split <;> simp_all <;> omega)
  · by_cases h3 : o.kind = 3
    · simp [h3]
    · by_cases h2 : o.kind = 2
      · simp [h2]
        by_cases hs : o.slot = 0
        · simp [hs]; split <;> simp_all <;> omega
        · simp [hs]
      · by_cases h4 : o.kind = 4
        · simp [h4]
        · simp [h1, h2, h3, h4]
theorem e_ref04_Check (o : LOp) : runFn T n (d + 1) 85 [.dat (encOp o)] [] = some (.dat (di (opErr o)), []) := by
  rw [runFn_succ]
  simp [T, xf_ref04_Check]
  unfold opErr
  by_cases h1 : o.kind = 1
  · simp [h1]
    split <;> first | rfl | (split <;> simp_all <;> omega)
  · by_cases h3 : o.kind = 3
    · simp [h3]
    · by_cases h2 : o.kind = 2
      · simp [h2]
        by_cases hs : o.slot = 0
        · simp [hs]; split <;> simp_all <;> omega
        · simp [hs]
      · by_cases h4 : o.kind = 4
        · simp [h4]
        · simp [h1, h2, h3, h4]
theorem e_ref05_Entry (e : Ent) : runFn T n (d + 2) 78 [.dat (encE e)] [] = some (.dat (di (entErr1 e)), []) := by
  have h := e_ref04_Check (n := n) (d := d) e.op
  rw [runFn_succ]
  unfold entErr1
  by_cases h1 : e.client < 0 ∨ 16 ≤ e.client
  · simp [T, xf_ref05_Entry, h, h1]
  · by_cases h2 : e.number < 1
    · simp [T, xf_ref05_Entry, h, h1, h2]
    · simp [T, xf_ref05_Entry, h, h1, h2]

/-- May a log be, and a commit number of it? -/
def logOk (c : Cfg) (l : List Ent) (commit : Int) : Bool := decide (logErr l c.room = 0) && decide (0 ≤ commit) && decide (commit ≤ l.length)
theorem checkNv_enc (l : List Ent) (room : Int) (hl : l.length ≤ 1048577) : checkNv [.dat (encLog l), .dat (di room)] = some (.tup [.dat (di (logErr l room)), .dat (di (logAt l room))], []) := by
  simp [checkNv, hl]
theorem e_oplog_Check (l : List Ent) (room : Int) (hl : l.length ≤ 1048577) : runFn T n (d + 1) 67 [.dat (encLog l), .dat (di room)] [] = some (.tup [.dat (di (logErr l room)), .dat (di (logAt l room))], []) := by
  rw [runFn_succ]
  simp [T, xn_oplog_Check, checkNv, hl]
theorem e_core_logged (c : Cfg) (l : List Ent) (k : Int) (hl : l.length ≤ 1048577) : runFn T n (d + 2) 44 [.dat (encCfg c), .dat (encLog l), .dat (di k)] [] = some (.dat (.bool (logOk c l k)), []) := by
  have h := e_oplog_Check (n := n) (d := d) l c.room hl
  rw [runFn_succ]
  simp [T, xf_core_logged, h, logOk]
end Go.Ax

namespace Go.Ax
set_option linter.all false
variable {n d : Nat}
set_option maxRecDepth 10000
set_option linter.unusedSimpArgs false

/-! ### ref05.Log -/
def S_log1 (l : List Ent) (i k : Nat) : St := ⟨[(0, .dat (encLog l)), (5, .dat (di i)), (7, .dat (di k))], []⟩
theorem l_ref05_Log1 (cf : CallF) (l : List Ent) (i : Nat) (hi : i < l.length) (hl : l.length ≤ 1048577) (hn : 1048577 < n) :
    loopAt (XCode.run cf n 0 xf_ref05_Log_b1) (headOf 0 xf_ref05_Log_k1) n (S_log1 l i 0) =
      some (if ∃ x ∈ l.take i, x.client = l[i].client ∧ l[i].number ≤ x.number then (.ret, ⟨[(4, .dat (di 64))], []⟩) else (.exit 2, ⟨[(0, .dat (encLog l)), (5, .dat (di i))], []⟩)) := by
  have hlt : (l.take i).length = i := by rw [List.length_take]; omega
  refine loop_any (S_log1 l i) (l.take i) (fun x => x.client = l[i].client ∧ l[i].number ≤ x.number) _ _ (fun k hk hp => ?_) (fun k hk hp => ?_) ?_ (fun s h => by cases h) (fun s h => by cases h) n (by omega)
  · have hki : k < i := by omega
    have hkl : k < l.length := by omega
    have hki' : (k : Int) < i := by omega
    rw [List.getElem_take] at hp
    simp [xf_ref05_Log_b1, S_log1, hki, hkl, hi, hp.1, hp.2]
  · have hki : k < i := by omega
    have hkl : k < l.length := by omega
    have hw := wrap_i k (by omega)
    rw [List.getElem_take] at hp
    refine ⟨S_log1 l i (k + 1), ?_, by simp [xf_ref05_Log_k1, S_log1]⟩
    by_cases h1 : l[k].client = l[i].client
    · have h2 : ¬ l[i].number ≤ l[k].number := fun h => hp ⟨h1, h⟩
      simp [xf_ref05_Log_b1, S_log1, hki, hkl, hi, h1, h2, hw]
    · simp [xf_ref05_Log_b1, S_log1, hki, hkl, hi, h1, hw]
  · rw [hlt]
    simp [xf_ref05_Log_b1, S_log1]

def S_log0 (l : List Ent) (i : Nat) : St := ⟨[(0, .dat (encLog l)), (5, .dat (di i))], []⟩
/-- The error of a log, entry by entry. -/
def logF (pre : List Ent) (x : Ent) : List Ent ⊕ (Ex × St) := if entErr pre x ≠ 0 then .inr (.ret, ⟨[(4, .dat (di (entErr pre x)))], []⟩) else .inl (pre ++ [x])
theorem loopL_log : ∀ (r pre : List Ent), loopL logF (fun _ => (Ex.exit 0, (⟨[], []⟩ : St))) r pre = if logErr1 pre r ≠ 0 then (.ret, ⟨[(4, .dat (di (logErr1 pre r)))], []⟩) else (.exit 0, ⟨[], []⟩)
  | [], pre => by simp [loopL, logErr1]
  | x :: r, pre => by
    simp only [loopL, logF, logErr1]
    by_cases h : entErr pre x = 0
    · simp only [h, ne_eq, not_true_eq_false, if_false]; exact loopL_log r (pre ++ [x])
    · simp [h]
theorem l_ref05_Log0 (l : List Ent) (hl : l.length ≤ 1048577) (hn : 1048577 < n) :
    loopAt (XCode.run (runFn T n (d + 2)) n 0 xf_ref05_Log_b0) (headOf 0 xf_ref05_Log_k0) n (S_log0 l 0) = some (if logErr1 [] l ≠ 0 then (.ret, ⟨[(4, .dat (di (logErr1 [] l)))], []⟩) else (.exit 0, ⟨[], []⟩)) := by
  have := loop_list (body := XCode.run (runFn T n (d + 2)) n 0 xf_ref05_Log_b0) (head := headOf 0 xf_ref05_Log_k0) (fun i (_ : List Ent) => S_log0 l i) (fun i pre => pre = l.take i) l logF (fun _ => (.exit 0, ⟨[], []⟩)) (fun i pre hi hI => ?_) (fun pre hI => ?_) l.length n 0 [] (by omega) (by omega) (by simp)
  · rw [this, List.drop_zero, loopL_log]
  · subst hI
    have he := e_ref05_Entry (n := n) (d := d) l[i]
    have h1 := l_ref05_Log1 (runFn T n (d + 2)) l i hi hl hn
    simp [S_log1, xf_ref05_Log_k1] at h1
    have hw := wrap_i i (by omega)
    simp only [logF, entErr]
    by_cases h0 : entErr1 l[i] = 0
    · rw [h0] at he
      by_cases hx : ∃ x ∈ l.take i, x.client = l[i].client ∧ l[i].number ≤ x.number
      · rw [if_pos hx] at h1
        simp [h0, hx]
        simp [xf_ref05_Log_b0, S_log0, hi, he, xf_ref05_Log_k1, h1]
      · rw [if_neg hx] at h1
        simp [h0, hx]
        refine ⟨S_log0 l (i + 1), ?_, by simp [xf_ref05_Log_k0, S_log0]⟩
        simp [xf_ref05_Log_b0, S_log0, hi, he, xf_ref05_Log_k1, h1, hw]
    · simp [h0]
      simp [xf_ref05_Log_b0, S_log0, hi, he, h0]
  · simp [xf_ref05_Log_b0, S_log0]

theorem e_ref05_Log (l : List Ent) (room : Int) (hl : l.length ≤ 1048577) (hn : 1048577 < n) : runFn T n (d + 3) 64 [.dat (encLog l), .dat (di room)] [] = some (.dat (di (if room < l.length then 60 else logErr1 [] l)), []) := by
  have h := l_ref05_Log0 (d := d) l hl hn
  simp [S_log0, xf_ref05_Log_k0] at h
  rw [runFn_succ]
  by_cases h1 : room < l.length
  · simp [T, xf_ref05_Log, h1]
  · by_cases h2 : logErr1 [] l = 0
    · simp [h2] at h
      simp [T, xf_ref05_Log, h1, xf_ref05_Log_k0, h, h2]
    · simp [h2] at h
      simp [T, xf_ref05_Log, h1, xf_ref05_Log_k0, h, h2]

theorem e_ref09_logged (c : Cfg) (l : List Ent) (k : Int) (hc : cfgOk c) (hl : l.length ≤ 1048577) (hn : 1048577 < n) : runFn T n (d + 4) 71 [.dat (encCfg c), .dat (encLog l), .dat (di k)] [] = some (.dat (.bool (logOk c l k)), []) := by
  have h := e_ref05_Log (d := d) l c.room hl hn
  have e : (if c.room < l.length then 60 else logErr1 [] l) = logErr l c.room := by
    have h1 : ¬ (c.room < 1 ∨ 256 < c.room) := by unfold cfgOk at hc; omega
    simp only [logErr, h1, if_false]
  rw [e] at h
  rw [runFn_succ]
  simp [T, xf_ref09_logged, h, logOk]

end Go.Ax

namespace Go.Ax
set_option linter.all false
variable {n d : Nat}
set_option maxRecDepth 10000
set_option linter.unusedSimpArgs false

abbrev boxC (c : Cfg) : Blk := .box [.dat (di c.f), .dat (di c.room), .dat (di c.patience), .dat (.bool c.unguarded)]
abbrev boxS (s : State) : Blk := .box [.dat (di s.self), .dat (di s.status), .dat (di s.view), .dat (di s.last), .dat (encLog s.log), .dat (di s.commit), .dat (encV s.vector), .dat (di s.idle), .dat (encAcks s.acks), .dat (encMarks s.marks), .dat (encBals s.ballots), .dat (encAnss s.answers)]

/-- A state whose lists are not longer than what is reckoned with. -/
structure Small (s : State) : Prop where
  log : s.log.length ≤ 1048577
  vector : s.vector.length ≤ 1048577
  acks : s.acks.length ≤ 1048577
  marks : s.marks.length ≤ 1048577
  ballots : s.ballots.length ≤ 1048577
  answers : s.answers.length ≤ 1048577
  blogs : ∀ b ∈ s.ballots, b.log.length ≤ 1048577
  alogs : ∀ b ∈ s.answers, b.log.length ≤ 1048577

/-! ### normal -/
def badAck (s : State) (a : Ack) : Bool := decide (a.place < 1) || decide ((s.log.length : Int) < a.place)
def S_norm (s : State) (i : Nat) : St := ⟨[(3, .ptr 0 0), (39, .dat (encAcks s.acks)), (40, .dat (di s.acks.length)), (41, .dat (di i))], [boxS s]⟩
theorem l_core_normal (cf : CallF) (s : State) (hs : Small s) (hn : 1048577 < n) :
    loopAt (XCode.run cf n 0 xf_core_normal_b0) (headOf 0 xf_core_normal_k0) n (S_norm s 0) = some ((s.acks.find? (badAck s)).elim (.exit 0, ⟨[(3, .ptr 0 0)], [boxS s]⟩) (fun a => (.ret, ⟨[(4, .dat (.bool false))], [boxS s, .box [.dat (di a.node), .dat (du a.draw.hi), .dat (du a.draw.lo), .dat (di a.place)]]⟩))) := by
  have hl := hs.acks
  refine loop_find (S_norm s) s.acks (badAck s) (fun a => (.ret, ⟨[(4, .dat (.bool false))], [boxS s, .box [.dat (di a.node), .dat (du a.draw.hi), .dat (du a.draw.lo), .dat (di a.place)]]⟩)) (.exit 0, ⟨[(3, .ptr 0 0)], [boxS s]⟩) (fun i hi hp => ?_) (fun i hi hp => ?_) ?_ (fun x s h => by simp at h) (fun s h => by simp at h) n (by omega)
  · have hi' : (i : Int) < s.acks.length := by omega
    have hp' : s.acks[i].place < 1 ∨ (s.log.length : Int) < s.acks[i].place := by simpa [badAck] using hp
    simp [xf_core_normal_b0, S_norm, hi, hi', hp']
  · have hi' : (i : Int) < s.acks.length := by omega
    have hw := wrap_i i (by omega)
    have hp' : ¬ (s.acks[i].place < 1 ∨ (s.log.length : Int) < s.acks[i].place) := by simpa [badAck] using hp
    refine ⟨⟨(S_norm s (i + 1)).env, [boxS s, .box [.dat (di s.acks[i].node), .dat (du s.acks[i].draw.hi), .dat (du s.acks[i].draw.lo), .dat (di s.acks[i].place)]]⟩, ?_, by simp [xf_core_normal_k0, S_norm]⟩
    simp [xf_core_normal_b0, S_norm, hi, hi', hp', hw]
  · simp [xf_core_normal_b0, S_norm]

def normalOk (c : Cfg) (s : State) : Bool := decide (s.last = s.view) && s.marks.isEmpty && s.ballots.isEmpty && s.answers.isEmpty && (if leads c s then (s.acks.find? (badAck s)).isNone && decide (s.idle = 0) else s.acks.isEmpty)
theorem e_core_normal (c : Cfg) (s : State) (hc : cfgOk c) (hs : Small s) (hn : 1048577 < n) : runFn T n (d + 2) 46 [.dat (encCfg c), .dat (encS s)] [] = some (.dat (.bool (normalOk c s)), []) := by
  have hL := e_core_leads (n := n) (d := d) c s hc
  have h0 := l_core_normal (runFn T n (d + 1)) s hs hn
  simp [S_norm, xf_core_normal_k0] at h0
  rw [runFn_succ]
  cases hf : s.acks.find? (badAck s) with
  | none =>
    rw [hf] at h0; simp at h0
    simp [T, xf_core_normal, hL, normalOk, xf_core_normal_k0, h0, hf, dec_len_pos, dec_nil]
    try (cases leads c s <;> simp)
  | some a =>
    rw [hf] at h0; simp at h0
    simp [T, xf_core_normal, hL, normalOk, xf_core_normal_k0, h0, hf, dec_len_pos, dec_nil]
    try (cases leads c s <;> simp)

end Go.Ax

namespace Go.Ax
set_option linter.all false
variable {n d : Nat}
set_option maxRecDepth 10000
set_option linter.unusedSimpArgs false

abbrev boxB (b : Ballot) : Blk := .box [.dat (di b.node), .dat (du b.draw.hi), .dat (du b.draw.lo), .dat (di b.last), .dat (di b.commit), .dat (encLog b.log)]
abbrev boxA (b : Answer) : Blk := .box [.dat (di b.node), .dat (du b.draw.hi), .dat (du b.draw.lo), .dat (di b.view), .dat (di b.commit), .dat (encLog b.log)]

def badBal (c : Cfg) (s : State) (b : Ballot) : Bool := decide (b.last < 0) || decide (s.view ≤ b.last) || !logOk c b.log b.commit
def S_chg (c : Cfg) (s : State) (i : Nat) : St := ⟨[(2, .ptr 0 0), (3, .ptr 1 0), (45, .dat (encBals s.ballots)), (46, .dat (di s.ballots.length)), (47, .dat (di i))], [boxC c, boxS s]⟩
theorem l_core_changing (c : Cfg) (s : State) (hs : Small s) (hn : 1048577 < n) :
    loopAt (XCode.run (runFn T n (d + 2)) n 0 xf_core_changing_b0) (headOf 0 xf_core_changing_k0) n (S_chg c s 0) = some ((s.ballots.find? (badBal c s)).elim (.exit 0, ⟨[], [boxC c, boxS s]⟩) (fun b => (.ret, ⟨[(4, .dat (.bool false))], [boxC c, boxS s, boxB b]⟩))) := by
  have hl := hs.ballots
  refine loop_find (S_chg c s) s.ballots (badBal c s) (fun b => (.ret, ⟨[(4, .dat (.bool false))], [boxC c, boxS s, boxB b]⟩)) (.exit 0, ⟨[], [boxC c, boxS s]⟩) (fun i hi hp => ?_) (fun i hi hp => ?_) ?_ (fun x s h => by simp at h) (fun s h => by simp at h) n (by omega)
  · have hi' : (i : Int) < s.ballots.length := by omega
    have hL := e_core_logged (n := n) (d := d) c s.ballots[i].log s.ballots[i].commit (hs.blogs _ (List.getElem_mem hi))
    simp [badBal] at hp
    simp [xf_core_changing_b0, S_chg, hi, hi', hL]
    split <;> (try split) <;> first | rfl | (exfalso; omega) | (exfalso; simp_all; done) | (exfalso; simp_all; omega)
  · have hi' : (i : Int) < s.ballots.length := by omega
    have hw := wrap_i i (by omega)
    have hL := e_core_logged (n := n) (d := d) c s.ballots[i].log s.ballots[i].commit (hs.blogs _ (List.getElem_mem hi))
    simp [badBal] at hp
    have hp1 : ¬ s.ballots[i].last < 0 := by omega
    have hp2 : ¬ s.view ≤ s.ballots[i].last := by omega
    refine nextK_some ?_
    simp [xf_core_changing_b0, xf_core_changing_k0, S_chg, hi, hi', hL, hw]
    have hq : 0 ≤ s.ballots[i].last ∧ s.ballots[i].last < s.view := hp.1
    simp [hq, hp1, hp2, hp.2, hw]
  · simp [xf_core_changing_b0, S_chg]

def changingOk (c : Cfg) (s : State) : Bool := !(decide (s.view ≤ s.last) || !s.acks.isEmpty || !s.answers.isEmpty || decide (c.f ≤ ↑s.ballots.length)) && (leads c s || s.ballots.isEmpty) && (s.ballots.find? (badBal c s)).isNone
theorem e_core_changing (c : Cfg) (s : State) (hc : cfgOk c) (hs : Small s) (hn : 1048577 < n) : runFn T n (d + 3) 47 [.dat (encCfg c), .dat (encS s)] [] = some (.dat (.bool (changingOk c s)), []) := by
  have hL := e_core_leads (n := n) (d := d + 1) c s hc
  have h0 := l_core_changing (d := d) c s hs hn
  simp [S_chg, xf_core_changing_k0] at h0
  rw [runFn_succ]
  unfold changingOk
  cases hb : (decide (s.view ≤ s.last) || !s.acks.isEmpty || !s.answers.isEmpty || decide (c.f ≤ ↑s.ballots.length))
  · cases hf : s.ballots.find? (badBal c s) with
    | none =>
      rw [hf] at h0; simp at h0
      simp [T, xf_core_changing, hL, xf_core_changing_k0, h0, dec_len_pos, dec_nil, hb]
    | some a =>
      rw [hf] at h0; simp at h0
      simp [T, xf_core_changing, hL, xf_core_changing_k0, h0, dec_len_pos, dec_nil, hb]
  · simp [T, xf_core_changing, dec_len_pos, dec_nil, hb]

def badAns (c : Cfg) (a : Answer) : Bool := decide (a.view < 0) || decide (4294967296 < a.view) || !logOk c a.log a.commit || !decide (a.node = primaryOf c a.view) && !a.log.isEmpty
def S_rec (c : Cfg) (s : State) (i : Nat) : St := ⟨[(2, .ptr 0 0), (60, .dat (encAnss s.answers)), (61, .dat (di s.answers.length)), (62, .dat (di i))], [boxC c]⟩
theorem l_core_recovering (c : Cfg) (s : State) (hs : Small s) (hn : 1048577 < n) :
    loopAt (XCode.run (runFn T n (d + 3)) n 0 xf_core_recovering_b0) (headOf 0 xf_core_recovering_k0) n (S_rec c s 0) = some ((s.answers.find? (badAns c)).elim (.exit 0, ⟨[], [boxC c]⟩) (fun b => (.ret, ⟨[(4, .dat (.bool false))], [boxC c, boxA b]⟩))) := by
  have hl := hs.answers
  refine loop_find (S_rec c s) s.answers (badAns c) (fun b => (.ret, ⟨[(4, .dat (.bool false))], [boxC c, boxA b]⟩)) (.exit 0, ⟨[], [boxC c]⟩) (fun i hi hp => ?_) (fun i hi hp => ?_) ?_ (fun x s h => by simp at h) (fun s h => by simp at h) n (by omega)
  · have hi' : (i : Int) < s.answers.length := by omega
    have hL := e_core_logged (n := n) (d := d + 1) c s.answers[i].log s.answers[i].commit (hs.alogs _ (List.getElem_mem hi))
    have hP := e_core_Primary (n := n) (d := d) c s.answers[i].view
    simp [badAns] at hp
    cases hb1 : (decide (s.answers[i].view < 0) || decide (4294967296 < s.answers[i].view))
    · cases hb2 : logOk c s.answers[i].log s.answers[i].commit
      · rw [hb2] at hL
        simp [xf_core_recovering_b0, S_rec, hi, hi', hL, hP, hb1]
      · rw [hb2] at hL
        simp [hb2] at hp
        simp at hb1
        have hp' : ¬s.answers[i].node = primaryOf c s.answers[i].view ∧ ¬s.answers[i].log = [] := by
          rcases hp with hp | hp
          · omega
          · exact hp
        simp [xf_core_recovering_b0, S_rec, hi, hi', hL, hP, hb1, hp', dec_len_pos]
    · simp [xf_core_recovering_b0, S_rec, hi, hi', hb1]
  · have hi' : (i : Int) < s.answers.length := by omega
    have hw := wrap_i i (by omega)
    have hL := e_core_logged (n := n) (d := d + 1) c s.answers[i].log s.answers[i].commit (hs.alogs _ (List.getElem_mem hi))
    have hP := e_core_Primary (n := n) (d := d) c s.answers[i].view
    unfold badAns at hp
    simp only [Bool.or_eq_false_iff] at hp
    obtain ⟨⟨⟨hb1, hb2⟩, hb3⟩, hb4⟩ := hp
    have hb2' : logOk c s.answers[i].log s.answers[i].commit = true := by simpa using hb3
    rw [hb2'] at hL
    refine nextK_some ?_
    simp [xf_core_recovering_b0, xf_core_recovering_k0, S_rec, hi, hi', hL, hP, hw, hb1, hb2, hb4]
    intro h
    simpa [h] using hb4
  · simp [xf_core_recovering_b0, S_rec]

def recHead (s : State) : Bool := !decide (s.view = 0) || !decide (s.last = 0) || !decide (s.commit = 0) || !decide (s.idle = 0) || !s.log.isEmpty || !s.acks.isEmpty || !s.marks.isEmpty || !s.ballots.isEmpty
def selfDraw (s : State) : Draw := s.vector.getD s.self.toNat ⟨0, 0⟩
def recoverOk (c : Cfg) (s : State) : Bool := !recHead s && !decide (selfDraw s = ⟨0, 0⟩) && (s.answers.find? (badAns c)).isNone
theorem draw_eq (x : Draw) (a b : Int) : x = ⟨a, b⟩ ↔ x.hi = a ∧ x.lo = b := by cases x; simp
theorem e_core_recovering (c : Cfg) (s : State) (hs : Small s) (hv : 0 ≤ s.self ∧ s.self < s.vector.length) (hn : 1048577 < n) : runFn T n (d + 4) 48 [.dat (encCfg c), .dat (encS s)] [] = some (.dat (.bool (recoverOk c s)), []) := by
  have h0 := l_core_recovering (d := d) c s hs hn
  simp [S_rec, xf_core_recovering_k0] at h0
  rw [runFn_succ]
  unfold recoverOk
  cases hb : recHead s <;> unfold recHead at hb
  · obtain ⟨k, hk⟩ := Int.eq_ofNat_of_zero_le hv.1
    have hk' : k < s.vector.length := by omega
    have e : selfDraw s = s.vector[k] := by simp [selfDraw, hk, List.getD, hk']
    rw [e]
    by_cases hz : s.vector[k] = ⟨0, 0⟩
    · have hz' := hz
      rw [draw_eq] at hz'
      simp [T, xf_core_recovering, xf_core_recovering_k0, dec_len_pos, dec_nil, hb, hk, hk', hz', hz]
    · have hz' := hz
      rw [draw_eq] at hz'
      cases hf : s.answers.find? (badAns c) with
      | none =>
        rw [hf] at h0; simp at h0
        simp [T, xf_core_recovering, xf_core_recovering_k0, dec_len_pos, dec_nil, hb, hk, hk', hz', hz, h0]
      | some a =>
        rw [hf] at h0; simp at h0
        simp [T, xf_core_recovering, xf_core_recovering_k0, dec_len_pos, dec_nil, hb, hk, hk', hz', hz, h0]
  · simp [T, xf_core_recovering, xf_core_recovering_k0, dec_len_pos, dec_nil, hb]

end Go.Ax
