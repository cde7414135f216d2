/-
  Messages that go out.
-/
import Derived.Test.YtponcchkfmbicaaED
namespace Go.Ax
set_option linter.all false
variable {n d : Nat}
set_option maxRecDepth 10000
set_option maxHeartbeats 4000000

structure SmallM (m : Msg) : Prop where
  log : m.log.length ≤ 1048576
  vector : m.vector.length ≤ 1048576
def between (k : Int) : Bool := decide (3 ≤ k) && decide (k ≤ 12)
theorem e_message_Between (k : Int) : runFn T n (d + 1) 59 [.dat (di k)] [] = some (.dat (.bool (between k)), []) := by
  rw [runFn_succ]
  simp [T, xf_message_Between, between]
theorem e_ref07_Between (k : Int) : runFn T n (d + 1) 61 [.dat (di k)] [] = some (.dat (.bool (between k)), []) := by
  rw [runFn_succ]
  simp [T, xf_ref07_Between, between]
def stampM (s : State) (m : Msg) : Msg := { m with node := s.self, vector := if between m.kind then s.vector else m.vector }
theorem SmallM.stamp {s : State} {m : Msg} (hs : Small2 s) (hm : SmallM m) : SmallM (stampM s m) := ⟨hm.log, by unfold stampM; simp only; split; exact hs.vector2; exact hm.vector⟩
def outM (s : State) (to : Int) (m : Msg) : Send := ⟨to, stampM s m⟩
theorem e_core_out (s : State) (to : Int) (m : Msg) (hs : Small2 s) (hm : SmallM m) : runFn T n (d + 2) 38 [.dat (encS s), .dat (di to), .dat (encM m)] [] = some (.dat (encSd (outM s to m)), []) := by
  have h1 := e_clone_Entry (n := n) (d := d) m.log (by have := hm.log; omega)
  have h2 := e_clone_Vector (n := n) (d := d) m.vector (by have := hm.vector; omega)
  have h3 := e_clone_Vector (n := n) (d := d) s.vector (by have := hs.vector2; omega)
  have h4 := e_message_Between (n := n) (d := d) m.kind
  rw [runFn_succ]
  unfold outM stampM
  cases hb : between m.kind
  · rw [hb] at h4
    simp [T, xf_core_out, h1, h2, h4]
  · rw [hb] at h4
    simp [T, xf_core_out, h1, h3, h4]
theorem e_plain_CopyMsg (m : Msg) (hm : SmallM m) : runFn T n (d + 2) 60 [.dat (encM m)] [] = some (.agg [.dat (di m.kind), .dat (di m.node), .dat (di m.view), .dat (di m.entry.client), .dat (di m.entry.number), .dat (di m.entry.op.kind), .dat (di m.entry.op.slot), .dat (.str m.entry.op.value), .dat (di m.result.code), .dat (di m.result.slot), .dat (.str m.result.value),
    .dat (di m.place), .dat (di m.commit), .dat (di m.last), .dat (du m.draw.hi), .dat (du m.draw.lo), .own 0 0 m.log.length, .own 1 0 m.vector.length], [arrE m.log, arrV m.vector]) := by
  have h1 := e_plain_CopyEntries (n := n) (d := d) m.log (by have := hm.log; omega)
  have h2 := e_plain_CopyVector (n := n) (d := d) m.vector (by have := hm.vector; omega)
  rw [runFn_succ]
  simp [T, xf_plain_CopyMsg, h1, h2]
theorem e_ref09_stamped (s : State) (m : Msg) (hs : Small2 s) (hm : SmallM m) : runFn T n (d + 3) 40 [.dat (encS s), .dat (encM m)] [] = some (.dat (encM (stampM s m)), []) := by
  have h1 := e_plain_CopyMsg (n := n) (d := d) m hm
  have h3 := e_plain_CopyVector (n := n) (d := d + 1) s.vector (by have := hs.vector2; omega)
  have h4 := e_ref07_Between (n := n) (d := d + 1) m.kind
  rw [runFn_succ]
  unfold stampM
  cases hb : between m.kind
  · rw [hb] at h4
    simp [T, xf_ref09_stamped, h1, h4]
  · rw [hb] at h4
    simp [T, xf_ref09_stamped, h1, h3, h4]

/-! ### one -/
def zeroM : Msg := ⟨0, 0, 0, ⟨0, 0, ⟨0, 0, ByteArray.empty⟩⟩, ⟨0, 0, ByteArray.empty⟩, 0, 0, 0, ⟨0, 0⟩, [], []⟩
def toOk (c : Cfg) (s : State) (to : Int) : Bool := (decide (0 ≤ to) && (decide (to < nodesOf c) && !decide (to = s.self))) || (decide (7 ≤ to) && decide (to < 23))
def oneErr (c : Cfg) (s : State) (to : Int) : Int := if stateErr c s ≠ 0 then stateErr c s else if toOk c s to then 0 else 3
def oneS (c : Cfg) (s : State) (to : Int) (m : Msg) : Send := if oneErr c s to ≠ 0 then ⟨0, zeroM⟩ else outM s to m
theorem e_core_One (c : Cfg) (s : State) (to : Int) (m : Msg) (hs : Small2 s) (hm : SmallM m) (hn : 1048577 < n) : runFn T n (d + 6) 13 [.dat (encCfg c), .dat (encS s), .dat (di to), .dat (encM m)] [] = some (.tup [.dat (encSd (oneS c s to m)), .dat (di (oneErr c s to))], []) := by
  have h1 := e_core_Check (n := n) (d := d) c s hs.toSmall hn
  have h2 := e_core_Nodes (n := n) (d := d + 3) c
  have h3 := e_core_out (n := n) (d := d + 3) s to m hs hm
  rw [runFn_succ]
  unfold oneS oneErr
  by_cases he : stateErr c s = 0
  · rw [he] at h1 ⊢
    simp only [ne_eq, not_true_eq_false, if_false]
    have hz : ({ data := #[] } : ByteArray) = ByteArray.empty := rfl
    by_cases q1 : 0 ≤ to
    · simp [T, xf_core_One, h1, h2, h3, q1]
      split
      · rename_i h
        have hk : toOk c s to = false := by
          cases hq : toOk c s to
          · rfl
          · exfalso; simp [toOk] at hq; omega
        simp [hk, zeroM, hz]
      · rename_i h
        have hk : toOk c s to = true := by
          cases hq : toOk c s to
          · exfalso; simp [toOk] at hq; omega
          · rfl
        simp [hk]
    · simp [T, xf_core_One, h1, h2, h3, q1]
      split
      · rename_i h
        have hk : toOk c s to = false := by
          cases hq : toOk c s to
          · rfl
          · exfalso; simp [toOk] at hq; omega
        simp [hk, zeroM, hz]
      · rename_i h
        have hk : toOk c s to = true := by
          cases hq : toOk c s to
          · exfalso; simp [toOk] at hq; omega
          · rfl
        simp [hk]
  · have hz : ({ data := #[] } : ByteArray) = ByteArray.empty := rfl
    simp [T, xf_core_One, h1, he, zeroM, hz]
theorem e_ref09_One (c : Cfg) (s : State) (to : Int) (m : Msg) (hs : Small2 s) (hm : SmallM m) (hn : 1048577 < n) : runFn T n (d + 8) 14 [.dat (encCfg c), .dat (encS s), .dat (di to), .dat (encM m)] [] = some (.tup [.dat (encSd (oneS c s to m)), .dat (di (oneErr c s to))], []) := by
  have h1 := e_ref09_Check (n := n) (d := d) c s hs.toSmall hn
  have h2 := e_ref09_Nodes (n := n) (d := d + 4) c
  have h3 := e_ref09_stamped (n := n) (d := d + 4) s m hs hm
  rw [runFn_succ]
  unfold oneS oneErr
  have hz : ({ data := #[] } : ByteArray) = ByteArray.empty := rfl
  by_cases he : stateErr c s = 0
  · rw [he] at h1 ⊢
    simp only [ne_eq, not_true_eq_false, if_false]
    simp [T, xf_ref09_One, h1, h2, h3]
    split
    · rename_i h
      have hk : toOk c s to = false := by
        cases hq : toOk c s to
        · rfl
        · exfalso; simp [toOk] at hq; omega
      simp [hk, zeroM, hz]
    · rename_i h
      have hk : toOk c s to = true := by
        cases hq : toOk c s to
        · exfalso; simp [toOk] at hq; omega
        · rfl
      simp [hk, outM]
  · simp [T, xf_ref09_One, h1, h2, he, zeroM, hz]

/-! ### all -/
def goTo (s : State) (m : Msg) (acc : List Send) (i : Nat) : List Send := if (i : Int) = s.self then acc else acc ++ [outM s i m]
def allS (c : Cfg) (s : State) (m : Msg) : List Send := (List.range (nodesOf c).toNat).foldl (goTo s m) []
theorem goTo_len {s : State} {m : Msg} {acc : List Send} {i : Nat} (h : acc.length ≤ i) : (goTo s m acc i).length ≤ i + 1 := by
  unfold goTo
  split
  · omega
  · simpa using h
def S_All (s : State) (m : Msg) (N : Int) (i : Nat) (acc : List Send) : St := ⟨[(4, .ptr 0 0), (5, .ptr 1 0), (9, .own 2 0 acc.length), (18, .dat (di N)), (19, .dat (di i))], [.box ((cellsS s).map .dat), .box ((cellsM m).map .dat), .arr 65 19 false false (acc.map encSd)]⟩
theorem l_core_All (s : State) (m : Msg) (N : Nat) (hN : N ≤ 100) (hs : Small2 s) (hm : SmallM m) (hn : 1048577 < n) : loopAt (XCode.run (runFn T n (d + 2)) n 0 xf_core_All_b0) (headOf 0 xf_core_All_k0) n (S_All s m N 0 []) =
    some (.exit 0, ⟨[(9, .own 2 0 ((List.range N).foldl (goTo s m) []).length)], (S_All s m N 0 ((List.range N).foldl (goTo s m) [])).H⟩) := by
  refine loop_fold (S_All s m N) (fun i acc => acc.length ≤ i) (List.range N) (goTo s m) (fun acc => (.exit 0, ⟨[(9, .own 2 0 acc.length)], (S_All s m N 0 acc).H⟩)) [] (by simp) (fun i acc h hI => ?_) (fun acc _ => ?_) (fun a s h => by simp at h) n (by simp; omega)
  · have hI : acc.length ≤ i := hI
    have hi : i < N := by simpa using h
    have hi' : (i : Int) < N := by omega
    have hw := wrap_i i (by omega)
    have hL : acc.length + 1 ≤ LIM := by simp only [LIM]; omega
    have ho := e_core_out (n := n) (d := d) s i m hs hm
    have hr : (List.range N)[i] = i := by simp
    rw [hr]
    refine ⟨goTo_len hI, nextK_some ?_⟩
    unfold goTo
    by_cases hq : (i : Int) = s.self
    · simp only [if_pos hq]
      have hq' := eq_true hq
      simp [xf_core_All_b0, xf_core_All_k0, S_All, hi', hw, hq']
    · simp only [if_neg hq]
      have hq' := eq_false hq
      simp [xf_core_All_b0, xf_core_All_k0, S_All, hi', hw, hq', ho, hL]
  · simp [xf_core_All_b0, S_All]
theorem nodes_le {c : Cfg} : 0 ≤ nodesOf c ∧ nodesOf c ≤ 100 := by
  unfold nodesOf cfgOk
  split <;> omega
theorem e_core_All (c : Cfg) (s : State) (m : Msg) (hs : Small2 s) (hm : SmallM m) (hn : 1048577 < n) : runFn T n (d + 6) 15 [.dat (encCfg c), .dat (encS s), .dat (encM m)] [] = some (.tup [.dat (encSds (if stateErr c s = 0 then allS c s m else [])), .dat (di (stateErr c s))], []) := by
  have h1 := e_core_Check (n := n) (d := d) c s hs.toSmall hn
  have h2 := e_core_Nodes (n := n) (d := d + 3) c
  obtain ⟨n1, n2⟩ := nodes_le (c := c)
  have h3 := l_core_All (n := n) (d := d + 3) s m (nodesOf c).toNat (by omega) hs hm hn
  have hN : (((nodesOf c).toNat : Nat) : Int) = nodesOf c := by omega
  rw [hN] at h3
  simp [S_All, xf_core_All_k0] at h3
  rw [runFn_succ]
  by_cases he : stateErr c s = 0
  · rw [he] at h1 ⊢
    simp only [ne_eq, not_true_eq_false, if_true]
    unfold allS
    simp [T, xf_core_All, xf_core_All_k0, h1, h2, h3]
  · simp [T, xf_core_All, h1, he]
def S_AllR (c : Cfg) (s : State) (m : Msg) (i : Nat) (acc : List Send) : St := ⟨[(3, .ptr 0 0), (4, .ptr 1 0), (5, .ptr 2 0), (9, .own 3 0 acc.length), (10, .dat (di i))], [.box [.dat (di c.f), .dat (di c.room), .dat (di c.patience), .dat (.bool c.unguarded)], .box ((cellsS s).map .dat), .box ((cellsM m).map .dat), .arr 65 19 false false (acc.map encSd)]⟩
theorem l_ref09_All (c : Cfg) (s : State) (m : Msg) (N : Nat) (hNo : nodesOf c = N) (hN : N ≤ 100) (hs : Small2 s) (hm : SmallM m) (hn : 1048577 < n) : loopAt (XCode.run (runFn T n (d + 3)) n 0 xf_ref09_All_b0) (headOf 0 xf_ref09_All_k0) n (S_AllR c s m 0 []) =
    some (.exit 0, ⟨[(9, .own 3 0 ((List.range N).foldl (goTo s m) []).length)], (S_AllR c s m 0 ((List.range N).foldl (goTo s m) [])).H⟩) := by
  have h2 := e_ref09_Nodes (n := n) (d := d) c
  rw [hNo] at h2
  refine loop_fold (S_AllR c s m) (fun i acc => acc.length ≤ i) (List.range N) (goTo s m) (fun acc => (.exit 0, ⟨[(9, .own 3 0 acc.length)], (S_AllR c s m 0 acc).H⟩)) [] (by simp) (fun i acc h hI => ?_) (fun acc _ => ?_) (fun a s h => by simp at h) n (by simp; omega)
  · have hI : acc.length ≤ i := hI
    have hi : i < N := by simpa using h
    have hi' : (i : Int) < N := by omega
    have hw := wrap_i i (by omega)
    have hL : acc.length + 1 ≤ LIM := by simp only [LIM]; omega
    have ho := e_ref09_stamped (n := n) (d := d) s m hs hm
    have hr : (List.range N)[i] = i := by simp
    rw [hr]
    refine ⟨goTo_len hI, nextK_some ?_⟩
    unfold goTo
    by_cases hq : (i : Int) = s.self
    · simp only [if_pos hq]
      have hq' := eq_true hq
      simp [xf_ref09_All_b0, xf_ref09_All_k0, S_AllR, h2, hi', hw, hq']
    · simp only [if_neg hq]
      have hq' := eq_false hq
      simp [xf_ref09_All_b0, xf_ref09_All_k0, S_AllR, h2, hi', hw, hq', ho, hL, outM]
  · simp [xf_ref09_All_b0, S_AllR, h2]
theorem e_ref09_All (c : Cfg) (s : State) (m : Msg) (hs : Small2 s) (hm : SmallM m) (hn : 1048577 < n) : runFn T n (d + 8) 16 [.dat (encCfg c), .dat (encS s), .dat (encM m)] [] = some (.tup [.dat (encSds (if stateErr c s = 0 then allS c s m else [])), .dat (di (stateErr c s))], []) := by
  have h1 := e_ref09_Check (n := n) (d := d) c s hs.toSmall hn
  obtain ⟨n1, n2⟩ := nodes_le (c := c)
  have h3 := l_ref09_All (n := n) (d := d + 4) c s m (nodesOf c).toNat (by omega) (by omega) hs hm hn
  simp [S_AllR, xf_ref09_All_k0] at h3
  rw [runFn_succ]
  by_cases he : stateErr c s = 0
  · rw [he] at h1 ⊢
    simp only [ne_eq, not_true_eq_false, if_true]
    unfold allS
    simp [T, xf_ref09_All, xf_ref09_All_k0, h1, h3]
  · simp [T, xf_ref09_All, h1, he]

/-! ### are they one -/
theorem e_plain_SameMsg (m : Msg) (hm : SmallM m) (hn : 1048577 < n) : runFn T n (d + 2) 17 [.dat (encM m), .dat (encM m)] [] = some (.dat (.bool true), []) := by
  have h1 := e_plain_SameEntries (n := n) (d := d) m.log (by have := hm.log; omega) hn
  have h2 := e_plain_SameVector (n := n) (d := d) m.vector (by have := hm.vector; omega) hn
  rw [runFn_succ]
  simp [T, xf_plain_SameMsg, h1, h2]
def S_SameSends (l : List Send) (i : Nat) : St := ⟨[(0, .dat (encSds l)), (1, .dat (encSds l)), (5, .dat (di i))], []⟩
theorem e_plain_SameSends (l : List Send) (hl : l.length ≤ 1048577) (hb : ∀ x ∈ l, SmallM x.msg) (hn : 1048577 < n) : runFn T n (d + 3) 18 [.dat (encSds l), .dat (encSds l)] [] = some (.dat (.bool true), []) := by
  have h0 : loopAt (XCode.run (runFn T n (d + 2)) n 0 xf_plain_SameSends_b0) (headOf 0 xf_plain_SameSends_k0) n (S_SameSends l 0) = some (.exit 0, ⟨[], []⟩) := by
    refine loop_for (S_SameSends l) l.length _ (fun i hi => nextK_some ?_) ?_ (fun s h => by simp at h) n (by omega)
    · have hi' : (i : Int) < l.length := by omega
      have hw := wrap_i i (by omega)
      have hE := e_plain_SameMsg (n := n) (d := d) l[i].msg (hb _ (List.getElem_mem hi)) hn
      simp [xf_plain_SameSends_b0, xf_plain_SameSends_k0, S_SameSends, hi, hi', hw, hE]
    · simp [xf_plain_SameSends_b0, S_SameSends]
  simp [S_SameSends, xf_plain_SameSends_k0] at h0
  rw [runFn_succ]
  simp [T, xf_plain_SameSends, xf_plain_SameSends_k0, h0]
theorem allS_small {c : Cfg} {s : State} {m : Msg} (hs : Small2 s) (hm : SmallM m) : (allS c s m).length ≤ 1048577 ∧ ∀ x ∈ allS c s m, SmallM x.msg := by
  have key : ∀ (l : List Nat) (acc : List Send), (∀ x ∈ acc, SmallM x.msg) → (l.foldl (goTo s m) acc).length ≤ acc.length + l.length ∧ ∀ x ∈ l.foldl (goTo s m) acc, SmallM x.msg := by
    intro l
    induction l with
    | nil => intro acc h; exact ⟨by simp, h⟩
    | cons i r ih =>
      intro acc h
      obtain ⟨h1, h2⟩ := ih (goTo s m acc i) (by
        unfold goTo
        split
        · exact h
        · intro x hx
          rcases List.mem_append.1 hx with hx | hx
          · exact h x hx
          · simp at hx; subst hx; exact hm.stamp hs)
      refine ⟨?_, h2⟩
      have := goTo_len (s := s) (m := m) (acc := acc) (i := acc.length) (Nat.le_refl _)
      have h3 : (goTo s m acc i).length ≤ acc.length + 1 := by unfold goTo; split <;> simp
      simp only [List.foldl_cons, List.length_cons]
      omega
  obtain ⟨n1, n2⟩ := nodes_le (c := c)
  obtain ⟨h1, h2⟩ := key (List.range (nodesOf c).toNat) [] (by simp)
  refine ⟨?_, h2⟩
  unfold allS
  simp at h1
  omega
end Go.Ax

namespace Go.Ax
set_option linter.all false
variable {n d : Nat}
set_option maxRecDepth 10000
set_option linter.unusedSimpArgs false
set_option maxHeartbeats 4000000

theorem e_num (k : Int) : runFn T n (d + 1) 9 [.dat (di k)] [] = some (.dat (di k), []) := by
  rw [runFn_succ]
  simp [T, xf_law09_num]
def gsL (s : State) : List (List Ent) := s.log :: (s.ballots.map (·.log) ++ s.answers.map (·.log))
theorem gsL_map (s : State) : gsE1 s s.answers = (gsL s).map rE := by simp [gsE1, gsL, Function.comp_def]
theorem gsL_len (s : State) : (gsL s).length = (gsE1 s s.answers).length := by rw [gsL_map]; simp
theorem Small2.wait {s : State} (hs : Small2 s) (c : Cfg) : Small (waitS c s) := by
  have h := hs.toSmall
  unfold waitS
  split
  · exact ⟨by simp [zeroS], by simp [zeroS], by simp [zeroS], by simp [zeroS], by simp [zeroS], by simp [zeroS], by simp [zeroS], by simp [zeroS]⟩
  · split
    · exact h
    · split
      · exact ⟨h.log, h.vector, h.acks, h.marks, h.ballots, h.answers, h.blogs, h.alogs⟩
      · exact ⟨h.log, h.vector, h.acks, h.marks, h.ballots, h.answers, h.blogs, h.alogs⟩
theorem e_Intact1 (s : State) (hs : Small2 s) (hn : 2097156 < n) : runFn T n (d + 4) 11 [.ptr 0 0] [boxG (.own 1 0 1) (.own 2 0 1) (.own 3 0 (gsE1 s s.answers).length) (.own 4 0 (gsE1 s s.answers).length) (.own 5 0 1) (.own 6 0 1), lD [rD s.vector], lD [rD s.vector], lE (gsE1 s s.answers), lE (gsE1 s s.answers), lS [encS s], lS [encS s]] =
    some (.dat (.bool true), [boxG (.own 1 0 1) (.own 2 0 1) (.own 3 0 (gsE1 s s.answers).length) (.own 4 0 (gsE1 s s.answers).length) (.own 5 0 1) (.own 6 0 1), lD [rD s.vector], lD [rD s.vector], lE (gsE1 s s.answers), lE (gsE1 s s.answers), lS [encS s], lS [encS s]]) := by
  have hb := hs.ballots
  have ha := hs.answers
  have hlen : (gsL s).length ≤ 2097155 := by simp [gsL]; omega
  have h := e_Intact (n := n) (d := d) [s.vector] (gsL s) [s] (by simp) (by simpa using hs.vector2) (by omega) (by omega) (by
    intro l hl
    simp only [gsL, List.mem_cons, List.mem_append, List.mem_map] at hl
    rcases hl with rfl | ⟨b, hb, rfl⟩ | ⟨b, hb, rfl⟩
    · exact hs.log2
    · exact hs.blogs2 b hb
    · exact hs.alogs2 b hb) (by simp) (by simpa using hs.toSmall) (by omega)
  simp only [HI, ← gsL_map, gsL_len, List.map_cons, List.map_nil, List.length_cons, List.length_nil, Nat.zero_add] at h
  exact h
theorem law_CoreWaits (c : Cfg) (s : State) (hs : Small2 s) (hn : 2097156 < n) : ∃ H, runFn T n (d + 9) 3 [.dat (encCfg c), .dat (encS s)] [] = some (.dat (.bool true), H) := by
  have g := e_Given_State (n := n) (d := d + 5) s hs (by omega)
  have w1 := e_core_Wait (n := n) (d := d + 2) c s hs.toSmall (by omega)
  have w2 := e_ref09_Wait (n := n) (d := d) c s hs.toSmall (by omega)
  have hnum := e_num (n := n) (d := d + 7) (stateErr c s)
  have hsame := e_plain_SameState (n := n) (d := d + 5) (waitS c s) (hs.wait c) (by omega)
  have hin := e_Intact1 (n := n) (d := d + 4) s hs hn
  unfold givAV givH at g
  rw [runFn_succ]
  simp [T, xf_law09_CoreWaits, g, w1, w2, hnum, hsame, hin]
end Go.Ax

namespace Go.Ax
set_option linter.all false
variable {n d : Nat}
set_option maxRecDepth 10000
set_option maxHeartbeats 4000000

theorem g_Entries4 (l : List Ent) (hl : l.length ≤ 1048576) (D D' E F S S' : List Dat) (hD : D.length = D'.length) (h0 : 0 < D.length) (hE : E.length ≤ 4000000) (hF : E.length = F.length) (he : 0 < E.length) (hS : S.length = S'.length) (hs : 0 < S.length) :
    runFn T n (d + 2) 25 [.ptr 0 0, .dat (encLog l)]
     [boxG (.own 1 0 D.length) (.own 2 0 D.length) (.own 3 0 E.length) (.own 4 0 E.length) (.own 5 0 S.length) (.own 6 0 S.length), lD D, lD D', lE E, lE F, lS S, lS S'] =
    some (.own 7 0 l.length, [boxG (.own 1 0 D.length) (.own 2 0 D.length) (.own 8 0 (E.length + 1)) (.own 9 0 (E.length + 1)) (.own 5 0 S.length) (.own 6 0 S.length), lD D, lD D', .dead, .dead, lS S, lS S', frzE l, lE (E ++ [rE l]), lE (F ++ [rE l])]) := by
  have c := e_plain_CopyEntries (n := n) (d := d) l (by omega)
  have c2 := copy_rawE (n := n) (d := d) l hl
  have h2 : l.length + 1 ≤ LIM := by simp only [LIM]; omega
  have h3 : (l.length : Int) ≤ (l.length : Int) + 1 := by omega
  have h5 : F.length + 1 ≤ LIM := by simp only [LIM]; omega
  rw [runFn_succ]
  simp [T, xf_plain_Given_Entries, c, h2, c2, take_snoc, h3, hD, hF, h5, hS]
theorem g_Vector4 (l : List Draw) (hl : l.length ≤ 1048576) (D D' E F S S' : List Dat) (hD : D.length = D'.length) (h0 : 0 < D.length) (hDl : D.length ≤ 4000000) (hF : E.length = F.length) (he : 0 < E.length) (hS : S.length = S'.length) (hs : 0 < S.length) :
    runFn T n (d + 2) 26 [.ptr 0 0, .dat (encV l)]
     [boxG (.own 1 0 D.length) (.own 2 0 D.length) (.own 3 0 E.length) (.own 4 0 E.length) (.own 5 0 S.length) (.own 6 0 S.length), lD D, lD D', lE E, lE F, lS S, lS S'] =
    some (.own 7 0 l.length, [boxG (.own 8 0 (D.length + 1)) (.own 9 0 (D.length + 1)) (.own 3 0 E.length) (.own 4 0 E.length) (.own 5 0 S.length) (.own 6 0 S.length), .dead, .dead, lE E, lE F, lS S, lS S', frzD l, lD (D ++ [rD l]), lD (D' ++ [rD l])]) := by
  have c := e_plain_CopyVector (n := n) (d := d) l (by omega)
  have c2 := copy_rawD (n := n) (d := d) l hl
  have h2 : l.length + 1 ≤ LIM := by simp only [LIM]; omega
  have h3 : (l.length : Int) ≤ (l.length : Int) + 1 := by omega
  have h5 : D'.length + 1 ≤ LIM := by simp only [LIM]; omega
  rw [runFn_succ]
  simp [T, xf_plain_Given_Vector, c, h2, c2, take_snoc, h3, hD, hF, h5, hS]
theorem e_Given_Msg (m : Msg) (hm : SmallM m) (D E S : List Dat) (h0 : 0 < D.length) (hDl : D.length ≤ 4000000) (hE : E.length ≤ 4000000) (he : 0 < E.length) (hs : 0 < S.length) :
    runFn T n (d + 3) 12 [.ptr 0 0, .dat (encM m)]
     [boxG (.own 1 0 D.length) (.own 2 0 D.length) (.own 3 0 E.length) (.own 4 0 E.length) (.own 5 0 S.length) (.own 6 0 S.length), lD D, lD D, lE E, lE E, lS S, lS S] =
    some (.agg [.dat (di m.kind), .dat (di m.node), .dat (di m.view), .dat (di m.entry.client), .dat (di m.entry.number), .dat (di m.entry.op.kind), .dat (di m.entry.op.slot), .dat (.str m.entry.op.value), .dat (di m.result.code), .dat (di m.result.slot), .dat (.str m.result.value),
      .dat (di m.place), .dat (di m.commit), .dat (di m.last), .dat (du m.draw.hi), .dat (du m.draw.lo), .own 7 0 m.log.length, .own 8 0 m.vector.length],
      [boxG (.own 9 0 (D.length + 1)) (.own 10 0 (D.length + 1)) (.own 11 0 (E.length + 1)) (.own 12 0 (E.length + 1)) (.own 5 0 S.length) (.own 6 0 S.length), .dead, .dead, .dead, .dead, lS S, lS S, frzE m.log, frzD m.vector,
        lD (D ++ [rD m.vector]), lD (D ++ [rD m.vector]), lE (E ++ [rE m.log]), lE (E ++ [rE m.log])]) := by
  have g1 := g_Entries4 (n := n) (d := d) m.log hm.log D D E E S S rfl h0 hE rfl he rfl hs
  have g2 := g_Vector4 (n := n) (d := d) m.vector hm.vector D D (E ++ [rE m.log]) (E ++ [rE m.log]) S S rfl h0 hDl rfl (by simp) rfl hs
  simp only [List.length_append, List.length_cons, List.length_nil, Nat.zero_add] at g2
  rw [runFn_succ]
  simp [T, xf_plain_Given_Msg, g1, g2, take_ahead]
theorem e_Intact2 (s : State) (m : Msg) (hs : Small2 s) (hm : SmallM m) (hn : 2097157 < n) : runFn T n (d + 4) 11 [.ptr 0 0] [boxG (.own 1 0 2) (.own 2 0 2) (.own 3 0 ((gsE1 s s.answers).length + 1)) (.own 4 0 ((gsE1 s s.answers).length + 1)) (.own 5 0 1) (.own 6 0 1), lD [rD s.vector, rD m.vector], lD [rD s.vector, rD m.vector], lE (gsE1 s s.answers ++ [rE m.log]), lE (gsE1 s s.answers ++ [rE m.log]), lS [encS s], lS [encS s]] =
    some (.dat (.bool true), [boxG (.own 1 0 2) (.own 2 0 2) (.own 3 0 ((gsE1 s s.answers).length + 1)) (.own 4 0 ((gsE1 s s.answers).length + 1)) (.own 5 0 1) (.own 6 0 1), lD [rD s.vector, rD m.vector], lD [rD s.vector, rD m.vector], lE (gsE1 s s.answers ++ [rE m.log]), lE (gsE1 s s.answers ++ [rE m.log]), lS [encS s], lS [encS s]]) := by
  have hb := hs.ballots
  have ha := hs.answers
  have hlen : (gsL s ++ [m.log]).length ≤ 2097156 := by simp [gsL]; omega
  have h := e_Intact (n := n) (d := d) [s.vector, m.vector] (gsL s ++ [m.log]) [s] (by simp) (by
      intro x hx
      simp only [List.mem_cons, List.not_mem_nil, or_false] at hx
      rcases hx with rfl | rfl
      · exact hs.vector2
      · exact hm.vector) (by omega) (by omega) (by
    intro l hl
    simp only [gsL, List.mem_cons, List.mem_append, List.mem_map, List.not_mem_nil, or_false] at hl
    rcases hl with (rfl | ⟨b, hb, rfl⟩ | ⟨b, hb, rfl⟩) | rfl
    · exact hs.log2
    · exact hs.blogs2 b hb
    · exact hs.alogs2 b hb
    · exact hm.log) (by simp) (by simpa using hs.toSmall) (by omega)
  simp only [HI, List.map_append, ← gsL_map, List.length_append, gsL_len, List.map_cons, List.map_nil, List.length_cons, List.length_nil, Nat.zero_add] at h
  exact h
theorem law_CoreSends (c : Cfg) (s : State) (to : Int) (m : Msg) (hs : Small2 s) (hm : SmallM m) (hn : 2097157 < n) : ∃ H, runFn T n (d + 9) 4 [.dat (encCfg c), .dat (encS s), .dat (di to), .dat (encM m)] [] = some (.dat (.bool true), H) := by
  have g := e_Given_State (n := n) (d := d + 5) s hs (by omega)
  have hgl : (gsE1 s s.answers).length ≤ 4000000 ∧ 0 < (gsE1 s s.answers).length := by
    have hb := hs.ballots
    have ha := hs.answers
    constructor
    · simp [gsE1]; omega
    · simp [gsE1]
  have g2 := e_Given_Msg (n := n) (d := d + 5) m hm [rD s.vector] (gsE1 s s.answers) [encS s] (by simp) (by simp) hgl.1 hgl.2 (by simp)
  have o1 := e_core_One (n := n) (d := d + 2) c s to m hs hm (by omega)
  have o2 := e_ref09_One (n := n) (d := d) c s to m hs hm (by omega)
  have a1 := e_core_All (n := n) (d := d + 2) c s m hs hm (by omega)
  have a2 := e_ref09_All (n := n) (d := d) c s m hs hm (by omega)
  have n1 := e_num (n := n) (d := d + 7) (oneErr c s to)
  have n2 := e_num (n := n) (d := d + 7) (stateErr c s)
  have hz : SmallM (oneS c s to m).msg := by
    unfold oneS
    split
    · exact ⟨by simp [zeroM], by simp [zeroM]⟩
    · exact hm.stamp hs
  have s1 := e_plain_SameMsg (n := n) (d := d + 6) (oneS c s to m).msg hz (by omega)
  have hA : (if stateErr c s = 0 then allS c s m else []).length ≤ 1048577 ∧ ∀ x ∈ (if stateErr c s = 0 then allS c s m else []), SmallM x.msg := by
    split
    · exact allS_small hs hm
    · simp
  have s2 := e_plain_SameSends (n := n) (d := d + 5) _ hA.1 hA.2 (by omega)
  have hin := e_Intact2 (n := n) (d := d + 4) s m hs hm hn
  unfold givAV givH at g
  simp only [List.length_cons, List.length_nil, Nat.zero_add] at g2
  generalize (if stateErr c s = 0 then allS c s m else []) = L at a1 a2 s2
  generalize oneS c s to m = X at o1 o2 s1
  rw [runFn_succ]
  simp [T, xf_law09_CoreSends, g, g2, o1, o2, a1, a2, n1, n2, s1, s2, hin]
end Go.Ax
