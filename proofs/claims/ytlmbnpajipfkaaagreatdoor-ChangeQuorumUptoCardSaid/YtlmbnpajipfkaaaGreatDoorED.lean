/-
  Copies.
-/
import Derived.Test.YtlmbnpajipfkaaaGreatDoorEC
namespace Go.Ax
set_option linter.all false
variable {n d : Nat}
set_option maxRecDepth 10000
set_option linter.unusedSimpArgs false
set_option maxHeartbeats 4000000
abbrev arrE (l : List Ent) : Blk := .arr 50 5 true false (l.map encE)
theorem e_plain_CopyEntries (l : List Ent) (hl : l.length ≤ 1048577) : runFn T n (d + 1) 7 [.dat (encLog l)] [] = some (.own 0 0 l.length, [arrE l]) := by
 rw [runFn_succ]
 simp [T, xf_plain_CopyEntries, lim_le hl]
end Go.Ax
namespace Go.Ax
set_option linter.all false
variable {n d : Nat}
set_option maxRecDepth 10000
set_option linter.unusedSimpArgs false
set_option maxHeartbeats 4000000
end Go.Ax
namespace Go.Ax
set_option linter.all false
variable {n d : Nat}
set_option maxRecDepth 10000
set_option linter.unusedSimpArgs false
set_option maxHeartbeats 4000000
theorem take_snoc {α : Type} (f : α → Dat) (l : List α) (x : Dat) : (l.map f ++ [x]).take (l.length + 1) = l.map f ++ [x] := List.take_of_length_le (by simp)
end Go.Ax
namespace Go.Ax
set_option linter.all false
variable {n d : Nat}
set_option maxRecDepth 10000
set_option linter.unusedSimpArgs false
set_option maxHeartbeats 4000000
structure Small2 (s : State) : Prop extends Small s where
 log2 : s.log.length ≤ 1048576
 vector2 : s.vector.length ≤ 1048576
 blogs2 : ∀ b ∈ s.ballots, b.log.length ≤ 1048576
 alogs2 : ∀ b ∈ s.answers, b.log.length ≤ 1048576
end Go.Ax
namespace Go.Ax
set_option linter.all false
variable {n d : Nat}
set_option maxRecDepth 10000
set_option linter.unusedSimpArgs false
set_option maxHeartbeats 4000000
end Go.Ax
namespace Go.Ax
set_option linter.all false
variable {n d : Nat}
set_option maxRecDepth 10000
set_option linter.unusedSimpArgs false
set_option maxHeartbeats 4000000
end Go.Ax
namespace Go.Ax
set_option linter.all false
variable {n d : Nat}
set_option maxRecDepth 10000
set_option maxHeartbeats 4000000
structure SmallM (m : Msg) : Prop where
 log : m.log.length ≤ 1048576
 vector : m.vector.length ≤ 1048576
def between (k : Int) : Bool := decide (3 ≤ k) && decide (k ≤ 12)
theorem e_message_Between (k : Int) : runFn T n (d + 1) 58 [.dat (di k)] [] = some (.dat (.bool (between k)), []) := by
 rw [runFn_succ]
 simp [T, xf_message_Between, between]
def stampM (s : State) (m : Msg) : Msg := { m with node := s.self, vector := if between m.kind then s.vector else m.vector }
theorem SmallM.stamp {s : State} {m : Msg} (hs : Small2 s) (hm : SmallM m) : SmallM (stampM s m) := ⟨hm.log, by unfold stampM; simp only; split; exact hs.vector2; exact hm.vector⟩
def outM (s : State) (to : Int) (m : Msg) : Send := ⟨to, stampM s m⟩
theorem e_core_out (s : State) (to : Int) (m : Msg) (hs : Small2 s) (hm : SmallM m) : runFn T n (d + 2) 70 [.dat (encS s), .dat (di to), .dat (encM m)] [] = some (.dat (encSd (outM s to m)), []) := by
 have h1 := e_clone_Entry (n := n) (d := d) m.log (by have := hm.log; omega)
 have h2 := e_clone_Vector (n := n) (d := d) m.vector (by have := hm.vector; omega)
 have h3 := e_clone_Vector (n := n) (d := d) s.vector (by have := hs.vector2; omega)
 have h4 := e_message_Between (n := n) (d := d) m.kind
 rw [runFn_succ]
 unfold outM stampM
 cases hb : between m.kind
 ·rw [hb] at h4
  simp [T, xf_core_out, h1, h2, h4]
 ·rw [hb] at h4
  simp [T, xf_core_out, h1, h3, h4]
def zeroM : Msg := ⟨0, 0, 0, ⟨0, 0, ⟨0, 0, ByteArray.empty⟩⟩, ⟨0, 0, ByteArray.empty⟩, 0, 0, 0, ⟨0, 0⟩, [], []⟩
def toOk (c : Cfg) (s : State) (to : Int) : Bool := (decide (0 ≤ to) && (decide (to < nodesOf c) && !decide (to = s.self))) || (decide (7 ≤ to) && decide (to < 23))
def oneErr (c : Cfg) (s : State) (to : Int) : Int := if stateErr c s ≠ 0 then stateErr c s else if toOk c s to then 0 else 3
def oneS (c : Cfg) (s : State) (to : Int) (m : Msg) : Send := if oneErr c s to ≠ 0 then ⟨0, zeroM⟩ else outM s to m
theorem e_core_One (c : Cfg) (s : State) (to : Int) (m : Msg) (hs : Small2 s) (hm : SmallM m) (hn : 1048577 < n) : runFn T n (d + 6) 71 [.dat (encCfg c), .dat (encS s), .dat (di to), .dat (encM m)] [] = some (.tup [.dat (encSd (oneS c s to m)), .dat (di (oneErr c s to))], []) := by
 have h1 := e_core_Check (n := n) (d := d) c s hs.toSmall hn
 have h2 := e_core_Nodes (n := n) (d := d + 3) c
 have h3 := e_core_out (n := n) (d := d + 3) s to m hs hm
 rw [runFn_succ]
 unfold oneS oneErr
 by_cases he : stateErr c s = 0
 ·rw [he] at h1 ⊢
  simp only [ne_eq, not_true_eq_false, if_false]
  have hz : ({ data := #[] } : ByteArray) = ByteArray.empty := rfl
  by_cases q1 : 0 ≤ to
  ·simp [T, xf_core_One, h1, h2, h3, q1]
   split
   ·rename_i h
    have hk : toOk c s to = false := by
     cases hq : toOk c s to
     ·rfl
     ·exfalso; simp [toOk] at hq; omega
    simp [hk, zeroM, hz]
   ·rename_i h
    have hk : toOk c s to = true := by
     cases hq : toOk c s to
     ·exfalso; simp [toOk] at hq; omega
     ·rfl
    simp [hk]
  ·simp [T, xf_core_One, h1, h2, h3, q1]
   split
   ·rename_i h
    have hk : toOk c s to = false := by
     cases hq : toOk c s to
     ·rfl
     ·exfalso; simp [toOk] at hq; omega
    simp [hk, zeroM, hz]
   ·rename_i h
    have hk : toOk c s to = true := by
     cases hq : toOk c s to
     ·exfalso; simp [toOk] at hq; omega
     ·rfl
    simp [hk]
 ·have hz : ({ data := #[] } : ByteArray) = ByteArray.empty := rfl
  simp [T, xf_core_One, h1, he, zeroM, hz]
def goTo (s : State) (m : Msg) (acc : List Send) (i : Nat) : List Send := if (i : Int) = s.self then acc else acc ++ [outM s i m]
def allS (c : Cfg) (s : State) (m : Msg) : List Send := (List.range (nodesOf c).toNat).foldl (goTo s m) []
theorem goTo_len {s : State} {m : Msg} {acc : List Send} {i : Nat} (h : acc.length ≤ i) : (goTo s m acc i).length ≤ i + 1 := by
 unfold goTo
 split
 ·omega
 ·simpa using h
def S_All (s : State) (m : Msg) (N : Int) (i : Nat) (acc : List Send) : St := ⟨[(4, .ptr 0 0), (5, .ptr 1 0), (9, .own 2 0 acc.length), (18, .dat (di N)), (19, .dat (di i))], [.box ((cellsS s).map .dat), .box ((cellsM m).map .dat), .arr 62 19 false false (acc.map encSd)]⟩
theorem l_core_All (s : State) (m : Msg) (N : Nat) (hN : N ≤ 100) (hs : Small2 s) (hm : SmallM m) (hn : 1048577 < n) : loopAt (XCode.run (runFn T n (d + 2)) n 0 xf_core_All_b0) (headOf 0 xf_core_All_k0) n (S_All s m N 0 []) =
  some (.exit 0, ⟨[(9, .own 2 0 ((List.range N).foldl (goTo s m) []).length)], (S_All s m N 0 ((List.range N).foldl (goTo s m) [])).H⟩) := by
 refine loop_fold (S_All s m N) (fun i acc => acc.length ≤ i) (List.range N) (goTo s m) (fun acc => (.exit 0, ⟨[(9, .own 2 0 acc.length)], (S_All s m N 0 acc).H⟩)) [] (by simp) (fun i acc h hI => ?_) (fun acc _ => ?_) (fun a s h => by simp at h) n (by simp; omega)
 ·have hI : acc.length ≤ i := hI
  have hi : i < N := by simpa using h
  have hi' : (i : Int) < N := by omega
  have hw := wrap_i i (by omega)
  have hL : acc.length + 1 ≤ LIM := by simp only [LIM]; omega
  have ho := e_core_out (n := n) (d := d) s i m hs hm
  have hr : (List.range N)[i] = i := by simp
  rw [hr]
  refine ⟨goTo_len hI, nextK_some ?_⟩
  unfold goTo
  by_cases hq : (i : Int) = s.self
  ·simp only [if_pos hq]
   have hq' := eq_true hq
   simp [xf_core_All_b0, xf_core_All_k0, S_All, hi', hw, hq']
  ·simp only [if_neg hq]
   have hq' := eq_false hq
   simp [xf_core_All_b0, xf_core_All_k0, S_All, hi', hw, hq', ho, hL]
 ·simp [xf_core_All_b0, S_All]
theorem nodes_le {c : Cfg} : 0 ≤ nodesOf c ∧ nodesOf c ≤ 100 := by
 unfold nodesOf cfgOk
 split <;> omega
theorem e_core_All (c : Cfg) (s : State) (m : Msg) (hs : Small2 s) (hm : SmallM m) (hn : 1048577 < n) : runFn T n (d + 6) 41 [.dat (encCfg c), .dat (encS s), .dat (encM m)] [] = some (.tup [.dat (encSds (if stateErr c s = 0 then allS c s m else [])), .dat (di (stateErr c s))], []) := by
 have h1 := e_core_Check (n := n) (d := d) c s hs.toSmall hn
 have h2 := e_core_Nodes (n := n) (d := d + 3) c
 obtain ⟨n1, n2⟩ := nodes_le (c := c)
 have h3 := l_core_All (n := n) (d := d + 3) s m (nodesOf c).toNat (by omega) hs hm hn
 have hN : (((nodesOf c).toNat : Nat) : Int) = nodesOf c := by omega
 rw [hN] at h3
 simp [S_All, xf_core_All_k0] at h3
 rw [runFn_succ]
 by_cases he : stateErr c s = 0
 ·rw [he] at h1 ⊢
  simp only [ne_eq, not_true_eq_false, if_true]
  unfold allS
  simp [T, xf_core_All, xf_core_All_k0, h1, h2, h3]
 ·simp [T, xf_core_All, h1, he]
theorem allS_small {c : Cfg} {s : State} {m : Msg} (hs : Small2 s) (hm : SmallM m) : (allS c s m).length ≤ 1048577 ∧ ∀ x ∈ allS c s m, SmallM x.msg := by
 have key : ∀ (l : List Nat) (acc : List Send), (∀ x ∈ acc, SmallM x.msg) → (l.foldl (goTo s m) acc).length ≤ acc.length + l.length ∧ ∀ x ∈ l.foldl (goTo s m) acc, SmallM x.msg := by
  intro l
  induction l with
  | nil => intro acc h; exact ⟨by simp, h⟩
  | cons i r ih =>
   intro acc h
   obtain ⟨h1, h2⟩ := ih (goTo s m acc i) (by
    unfold goTo
    split
    ·exact h
    ·intro x hx
     rcases List.mem_append.1 hx with hx | hx
     ·exact h x hx
     ·simp at hx; subst hx; exact hm.stamp hs)
   refine ⟨?_, h2⟩
   have := goTo_len (s := s) (m := m) (acc := acc) (i := acc.length) (Nat.le_refl _)
   have h3 : (goTo s m acc i).length ≤ acc.length + 1 := by unfold goTo; split <;> simp
   simp only [List.foldl_cons, List.length_cons]
   omega
 obtain ⟨n1, n2⟩ := nodes_le (c := c)
 obtain ⟨h1, h2⟩ := key (List.range (nodesOf c).toNat) [] (by simp)
 refine ⟨?_, h2⟩
 unfold allS
 simp at h1
 omega
end Go.Ax
namespace Go.Ax
set_option linter.all false
variable {n d : Nat}
set_option maxRecDepth 10000
set_option maxHeartbeats 4000000
end Go.Ax
namespace Go.Ax
set_option linter.all false
variable {n d : Nat}
set_option maxRecDepth 10000
set_option linter.unusedSimpArgs false
set_option maxHeartbeats 4000000
theorem eq_of_get {α : Type} {l k : List α} (h : l.length = k.length) (hs : ∀ j, 0 ≤ j → j < l.length → ¬ (l[j]? ≠ k[j]?)) : l = k :=
 List.ext_getElem? fun j => by
  by_cases hj : j < l.length
  ·exact Classical.not_not.1 (hs j (Nat.zero_le _) hj)
  ·rw [List.getElem?_eq_none (by omega), List.getElem?_eq_none (by omega)]
theorem lop_eq {a b : LOp} (h1 : a.kind = b.kind) (h2 : a.slot = b.slot) (h3 : a.value = b.value) : a = b := by cases a; cases b; simp_all
theorem eqb_Ent {x y : Ent} (h : ¬ x = y) : (decide (x.client = y.client) && (decide (x.number = y.number) && (decide (x.op.kind = y.op.kind) && (decide (x.op.slot = y.op.slot) && decide (x.op.value = y.op.value))))) = false := by
 rw [← Bool.not_eq_true]
 intro hb
 simp only [Bool.and_eq_true, decide_eq_true_eq] at hb
 obtain ⟨h1, h2, h3, h4, h5⟩ := hb
 have h6 := lop_eq h3 h4 h5
 exact h (by
  cases x; cases y
  simp_all)
theorem eq_plain_SameEntries (l k : List Ent) (hl : l.length ≤ 1048577) (hn : 1048577 < n) : runFn T n (d + 1) 14 [.dat (encLog l), .dat (encLog k)] [] = some (.dat (.bool (decide (l = k))), []) := by
 by_cases hlen : l.length = k.length
 ·have main := loop_until (body := XCode.run (runFn T n d) n 0 xf_plain_SameEntries_b0) (head := headOf 0 xf_plain_SameEntries_k0) (fun i => ⟨[(0, .dat (encLog l)), (1, .dat (encLog k)), (5, .dat (di i))], []⟩) l.length (.exit 0, ⟨[], []⟩) (fun i => l[i]? ≠ k[i]?) (fun _ => (.ret, ⟨[(4, .dat (.bool false))], []⟩))
   (fun i hi hs => nextK_some ?_) (fun i hi hs => ⟨?_, fun s h => by cases h⟩) ?_ (fun s h => by cases h) l.length n 0 (by omega) (by omega)
  ·have h1 : (⟨[(0, .dat (encLog l)), (1, .dat (encLog k)), (5, .dat (di (0 : Nat)))], []⟩ : St) = ⟨[(0, .dat (encLog l)), (1, .dat (encLog k)), (5, .dat (di 0))], []⟩ := rfl
   rw [h1] at main
   rw [runFn_succ]
   rcases main with ⟨j, _, hj, hs, _, e⟩ | ⟨hs, e⟩
   ·have hne : ¬ l = k := fun h => hs (by rw [h])
    simp [xf_plain_SameEntries_k0] at e
    simp [T, xf_plain_SameEntries, xf_plain_SameEntries_k0, hlen, e, hne]
    try (rw [hlen] at e; simp [e])
   ·have heq := eq_of_get hlen hs
    simp [xf_plain_SameEntries_k0] at e
    simp [T, xf_plain_SameEntries, xf_plain_SameEntries_k0, hlen, e, heq]
    try (rw [heq] at e; simp [e])
  ·have hk : i < k.length := by omega
   have hi' : (i : Int) < l.length := by omega
   have hk' : (i : Int) < k.length := by omega
   have hw := wrap_i i (by omega)
   have he : l[i] = k[i] := by
    have := Classical.not_not.1 hs
    rw [List.getElem?_eq_getElem hi, List.getElem?_eq_getElem hk] at this
    injection this
   simp [xf_plain_SameEntries_b0, xf_plain_SameEntries_k0, hi, hi', hk, hk', hw, he]
  ·have hk : i < k.length := by omega
   have hi' : (i : Int) < l.length := by omega
   have hk' : (i : Int) < k.length := by omega
   have he : ¬ l[i] = k[i] := fun he => hs (by rw [List.getElem?_eq_getElem hi, List.getElem?_eq_getElem hk, he])
   have hb := eqb_Ent he
   simp [xf_plain_SameEntries_b0, hi, hi', hk, hk', hb]
  ·simp [xf_plain_SameEntries_b0]
 ·have hne : ¬ l = k := fun h => hlen (by rw [h])
  have hlen' : ¬ (l.length : Int) = k.length := by omega
  rw [runFn_succ]
  simp [T, xf_plain_SameEntries, hlen, hlen', hne]
end Go.Ax
