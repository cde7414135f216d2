/-
  Copies.
-/
import Derived.Test.YtponcchkfmbicaaDoorEC
namespace Go.Ax
set_option linter.all false
variable {n d : Nat}
set_option maxRecDepth 10000
set_option linter.unusedSimpArgs false
set_option maxHeartbeats 4000000

abbrev arrE (l : List Ent) : Blk := .arr 55 5 true false (l.map encE)
abbrev arrV (l : List Draw) : Blk := .arr 26 2 true false (l.map encD)
abbrev arrK (l : List Ack) : Blk := .arr 111 4 true false (l.map encAck)
abbrev arrM (l : List Mark) : Blk := .arr 113 3 true false (l.map encMark)
abbrev arrB (l : List Ballot) : Blk := .arr 115 6 false false (l.map encBal)
abbrev arrA (l : List Answer) : Blk := .arr 117 6 false false (l.map encAns)
abbrev boxP (s : State) (b a : AV) : Blk := .box [.dat (di s.self), .dat (di s.status), .dat (di s.view), .dat (di s.last), .own 1 0 s.log.length, .dat (di s.commit), .own 2 0 s.vector.length, .dat (di s.idle), .own 3 0 s.acks.length, .own 4 0 s.marks.length, b, a]
def S_cp0 (s : State) (p : List Ballot) : St := ⟨[(1, .ptr 0 0), (2, .ptr 5 0), (3, .own 6 0 p.length), (4, .dat (di p.length))], [boxP s (.dat (encBals s.ballots)) (.dat (encAnss s.answers)), arrE s.log, arrV s.vector, arrK s.acks, arrM s.marks, boxZ, arrB p]⟩
def S_cp1 (s : State) (p : List Answer) : St := ⟨[(1, .ptr 0 0), (2, .ptr 6 0), (6, .own 7 0 p.length), (7, .dat (di p.length))], [boxP s (.own 5 0 s.ballots.length) (.dat (encAnss s.answers)), arrE s.log, arrV s.vector, arrK s.acks, arrM s.marks, arrB s.ballots, boxZ, arrA p]⟩
abbrev copyAV (s : State) : AV := .agg [.dat (di s.self), .dat (di s.status), .dat (di s.view), .dat (di s.last), .own 0 0 s.log.length, .dat (di s.commit), .own 1 0 s.vector.length, .dat (di s.idle), .own 2 0 s.acks.length, .own 3 0 s.marks.length, .own 4 0 s.ballots.length, .own 5 0 s.answers.length]
abbrev copyH (s : State) : List Blk := [arrE s.log, arrV s.vector, arrK s.acks, arrM s.marks, arrB s.ballots, arrA s.answers]
end Go.Ax

namespace Go.Ax
set_option linter.all false
variable {n d : Nat}
set_option maxRecDepth 10000
set_option linter.unusedSimpArgs false
set_option maxHeartbeats 4000000

def S_SameEntries (l : List Ent) (i : Nat) : St := ⟨[(0, .dat (encLog l)), (1, .dat (encLog l)), (5, .dat (di i))], []⟩
theorem e_plain_SameEntries (l : List Ent) (hl : l.length ≤ 1048577) (hn : 1048577 < n) : runFn T n (d + 1) 27 [.dat (encLog l), .dat (encLog l)] [] = some (.dat (.bool true), []) := by
  have h0 : loopAt (XCode.run (runFn T n (d + 0)) n 0 xf_plain_SameEntries_b0) (headOf 0 xf_plain_SameEntries_k0) n (S_SameEntries l 0) = some (.exit 0, ⟨[], []⟩) := by
    refine loop_for (S_SameEntries l) l.length _ (fun i hi => nextK_some ?_) ?_ (fun s h => by simp at h) n (by omega)
    · have hi' : (i : Int) < l.length := by omega
      have hw := wrap_i i (by omega)
      simp [xf_plain_SameEntries_b0, xf_plain_SameEntries_k0, S_SameEntries, hi, hi', hw]
    · simp [xf_plain_SameEntries_b0, S_SameEntries]
  simp [S_SameEntries, xf_plain_SameEntries_k0] at h0
  rw [runFn_succ]
  simp [T, xf_plain_SameEntries, xf_plain_SameEntries_k0, h0]

def S_SameVector (l : List Draw) (i : Nat) : St := ⟨[(0, .dat (encV l)), (1, .dat (encV l)), (5, .dat (di i))], []⟩
theorem e_plain_SameVector (l : List Draw) (hl : l.length ≤ 1048577) (hn : 1048577 < n) : runFn T n (d + 1) 28 [.dat (encV l), .dat (encV l)] [] = some (.dat (.bool true), []) := by
  have h0 : loopAt (XCode.run (runFn T n (d + 0)) n 0 xf_plain_SameVector_b0) (headOf 0 xf_plain_SameVector_k0) n (S_SameVector l 0) = some (.exit 0, ⟨[], []⟩) := by
    refine loop_for (S_SameVector l) l.length _ (fun i hi => nextK_some ?_) ?_ (fun s h => by simp at h) n (by omega)
    · have hi' : (i : Int) < l.length := by omega
      have hw := wrap_i i (by omega)
      simp [xf_plain_SameVector_b0, xf_plain_SameVector_k0, S_SameVector, hi, hi', hw]
    · simp [xf_plain_SameVector_b0, S_SameVector]
  simp [S_SameVector, xf_plain_SameVector_k0] at h0
  rw [runFn_succ]
  simp [T, xf_plain_SameVector, xf_plain_SameVector_k0, h0]

def S_sameAcks (l : List Ack) (i : Nat) : St := ⟨[(0, .dat (encAcks l)), (1, .dat (encAcks l)), (5, .dat (di i))], []⟩
theorem e_plain_sameAcks (l : List Ack) (hl : l.length ≤ 1048577) (hn : 1048577 < n) : runFn T n (d + 1) 29 [.dat (encAcks l), .dat (encAcks l)] [] = some (.dat (.bool true), []) := by
  have h0 : loopAt (XCode.run (runFn T n (d + 0)) n 0 xf_plain_sameAcks_b0) (headOf 0 xf_plain_sameAcks_k0) n (S_sameAcks l 0) = some (.exit 0, ⟨[], []⟩) := by
    refine loop_for (S_sameAcks l) l.length _ (fun i hi => nextK_some ?_) ?_ (fun s h => by simp at h) n (by omega)
    · have hi' : (i : Int) < l.length := by omega
      have hw := wrap_i i (by omega)
      simp [xf_plain_sameAcks_b0, xf_plain_sameAcks_k0, S_sameAcks, hi, hi', hw]
    · simp [xf_plain_sameAcks_b0, S_sameAcks]
  simp [S_sameAcks, xf_plain_sameAcks_k0] at h0
  rw [runFn_succ]
  simp [T, xf_plain_sameAcks, xf_plain_sameAcks_k0, h0]

def S_sameMarks (l : List Mark) (i : Nat) : St := ⟨[(0, .dat (encMarks l)), (1, .dat (encMarks l)), (5, .dat (di i))], []⟩
theorem e_plain_sameMarks (l : List Mark) (hl : l.length ≤ 1048577) (hn : 1048577 < n) : runFn T n (d + 1) 30 [.dat (encMarks l), .dat (encMarks l)] [] = some (.dat (.bool true), []) := by
  have h0 : loopAt (XCode.run (runFn T n (d + 0)) n 0 xf_plain_sameMarks_b0) (headOf 0 xf_plain_sameMarks_k0) n (S_sameMarks l 0) = some (.exit 0, ⟨[], []⟩) := by
    refine loop_for (S_sameMarks l) l.length _ (fun i hi => nextK_some ?_) ?_ (fun s h => by simp at h) n (by omega)
    · have hi' : (i : Int) < l.length := by omega
      have hw := wrap_i i (by omega)
      simp [xf_plain_sameMarks_b0, xf_plain_sameMarks_k0, S_sameMarks, hi, hi', hw]
    · simp [xf_plain_sameMarks_b0, S_sameMarks]
  simp [S_sameMarks, xf_plain_sameMarks_k0] at h0
  rw [runFn_succ]
  simp [T, xf_plain_sameMarks, xf_plain_sameMarks_k0, h0]

def S_SameBallots (l : List Ballot) (i : Nat) : St := ⟨[(0, .dat (encBals l)), (1, .dat (encBals l)), (5, .dat (di i))], []⟩
theorem e_plain_SameBallots (l : List Ballot) (hl : l.length ≤ 1048577) (hb : ∀ b ∈ l, b.log.length ≤ 1048577) (hn : 1048577 < n) : runFn T n (d + 2) 31 [.dat (encBals l), .dat (encBals l)] [] = some (.dat (.bool true), []) := by
  have h0 : loopAt (XCode.run (runFn T n (d + 1)) n 0 xf_plain_SameBallots_b0) (headOf 0 xf_plain_SameBallots_k0) n (S_SameBallots l 0) = some (.exit 0, ⟨[], []⟩) := by
    refine loop_for (S_SameBallots l) l.length _ (fun i hi => nextK_some ?_) ?_ (fun s h => by simp at h) n (by omega)
    · have hi' : (i : Int) < l.length := by omega
      have hw := wrap_i i (by omega)
      have hE := e_plain_SameEntries (n := n) (d := d) l[i].log (hb _ (List.getElem_mem hi)) hn
      simp [xf_plain_SameBallots_b0, xf_plain_SameBallots_k0, S_SameBallots, hi, hi', hw, hE]
    · simp [xf_plain_SameBallots_b0, S_SameBallots]
  simp [S_SameBallots, xf_plain_SameBallots_k0] at h0
  rw [runFn_succ]
  simp [T, xf_plain_SameBallots, xf_plain_SameBallots_k0, h0]

def S_SameAnswers (l : List Answer) (i : Nat) : St := ⟨[(0, .dat (encAnss l)), (1, .dat (encAnss l)), (5, .dat (di i))], []⟩
theorem e_plain_SameAnswers (l : List Answer) (hl : l.length ≤ 1048577) (hb : ∀ b ∈ l, b.log.length ≤ 1048577) (hn : 1048577 < n) : runFn T n (d + 2) 32 [.dat (encAnss l), .dat (encAnss l)] [] = some (.dat (.bool true), []) := by
  have h0 : loopAt (XCode.run (runFn T n (d + 1)) n 0 xf_plain_SameAnswers_b0) (headOf 0 xf_plain_SameAnswers_k0) n (S_SameAnswers l 0) = some (.exit 0, ⟨[], []⟩) := by
    refine loop_for (S_SameAnswers l) l.length _ (fun i hi => nextK_some ?_) ?_ (fun s h => by simp at h) n (by omega)
    · have hi' : (i : Int) < l.length := by omega
      have hw := wrap_i i (by omega)
      have hE := e_plain_SameEntries (n := n) (d := d) l[i].log (hb _ (List.getElem_mem hi)) hn
      simp [xf_plain_SameAnswers_b0, xf_plain_SameAnswers_k0, S_SameAnswers, hi, hi', hw, hE]
    · simp [xf_plain_SameAnswers_b0, S_SameAnswers]
  simp [S_SameAnswers, xf_plain_SameAnswers_k0] at h0
  rw [runFn_succ]
  simp [T, xf_plain_SameAnswers, xf_plain_SameAnswers_k0, h0]

theorem e_plain_SameState (s : State) (hs : Small s) (hn : 1048577 < n) : runFn T n (d + 3) 16 [.dat (encS s), .dat (encS s)] [] = some (.dat (.bool true), []) := by
  have h1 := e_plain_SameEntries (n := n) (d := d + 1) s.log hs.log hn
  have h2 := e_plain_SameVector (n := n) (d := d + 1) s.vector hs.vector hn
  have h3 := e_plain_sameAcks (n := n) (d := d + 1) s.acks hs.acks hn
  have h4 := e_plain_sameMarks (n := n) (d := d + 1) s.marks hs.marks hn
  have h5 := e_plain_SameBallots (n := n) (d := d) s.ballots hs.ballots hs.blogs hn
  have h6 := e_plain_SameAnswers (n := n) (d := d) s.answers hs.answers hs.alogs hn
  rw [runFn_succ]
  simp [T, xf_plain_SameState, h1, h2, h3, h4, h5, h6]
end Go.Ax

namespace Go.Ax
set_option linter.all false
variable {n d : Nat}
set_option maxRecDepth 10000
set_option linter.unusedSimpArgs false
set_option maxHeartbeats 4000000

def sealE : Ent := ⟨-77, -88, ⟨0, 0, ByteArray.empty⟩⟩
def sealD : Draw := ⟨77, 88⟩
def gE (l : List Ent) : Dat := encLog (l ++ [sealE])
def gV (l : List Draw) : Dat := encV (l ++ [sealD])
abbrev nD : AV := .nil 30 1 false
abbrev nE : AV := .nil 28 1 false
abbrev nS : AV := .nil 36 12 false
abbrev aD (l : List (List Draw)) : Blk := .arr 30 1 false false (l.map gV)
abbrev aE (l : List (List Ent)) : Blk := .arr 28 1 false false (l.map gE)
abbrev aS (l : List State) : Blk := .arr 36 12 false false (l.map encS)
abbrev rawE : Dat := .agg [.int .i64 (-77), .int .i64 (-88), .int .i64 0, .int .i64 0, .str ⟨#[]⟩]
abbrev rawD : Dat := .agg [.int .u64 77, .int .u64 88]
theorem take_snoc {α : Type} (f : α → Dat) (l : List α) (x : Dat) : (l.map f ++ [x]).take (l.length + 1) = l.map f ++ [x] := List.take_of_length_le (by simp)
theorem take_ahead {α : Type} (f : α → Dat) (l : List α) (r : List Dat) : (l.map f ++ r).take l.length = l.map f := by rw [List.take_append_of_le_length (by simp), List.take_of_length_le (by simp)]
abbrev frzE (l : List Ent) : Blk := .arr 55 5 true true (l.map encE ++ [rawE])
abbrev frzD (l : List Draw) : Blk := .arr 26 2 true true (l.map encD ++ [rawD])
abbrev lD (D : List Dat) : Blk := .arr 30 1 false false D
abbrev lE (D : List Dat) : Blk := .arr 28 1 false false D
abbrev lS (D : List Dat) : Blk := .arr 36 12 false false D
abbrev rE (l : List Ent) : Dat := .sl 5 true (l.map encE ++ [rawE])
abbrev rD (l : List Draw) : Dat := .sl 2 true (l.map encD ++ [rawD])
end Go.Ax

namespace Go.Ax
set_option linter.all false
variable {n d : Nat}
set_option maxRecDepth 10000
set_option linter.unusedSimpArgs false
set_option maxHeartbeats 4000000

abbrev boxQ (s : State) : Blk := .box [.dat (di s.self), .dat (di s.status), .dat (di s.view), .dat (di s.last), .own 6 0 s.log.length, .dat (di s.commit), .own 7 0 s.vector.length, .dat (di s.idle), .own 8 0 s.acks.length, .own 9 0 s.marks.length, .own 10 0 s.ballots.length, .own 11 0 s.answers.length]
def gsE0 (s : State) (p : List Ballot) : List Dat := rE s.log :: p.map fun b => rE b.log
def gsE1 (s : State) (p : List Answer) : List Dat := rE s.log :: (s.ballots.map (fun b => rE b.log) ++ p.map fun b => rE b.log)
structure Small2 (s : State) : Prop extends Small s where
  log2 : s.log.length ≤ 1048576
  vector2 : s.vector.length ≤ 1048576
  blogs2 : ∀ b ∈ s.ballots, b.log.length ≤ 1048576
  alogs2 : ∀ b ∈ s.answers, b.log.length ≤ 1048576
theorem gsE01 (s : State) : gsE1 s [] = gsE0 s s.ballots := by simp [gsE1, gsE0]
def givAV (s : State) : AV := .agg [.dat (di s.self), .dat (di s.status), .dat (di s.view), .dat (di s.last), .own 1 0 s.log.length, .dat (di s.commit), .own 2 0 s.vector.length, .dat (di s.idle), .own 3 0 s.acks.length, .own 4 0 s.marks.length, .own 5 0 s.ballots.length, .own 6 0 s.answers.length]
end Go.Ax

namespace Go.Ax
set_option linter.all false
variable {n d : Nat}
set_option maxRecDepth 10000
set_option linter.unusedSimpArgs false
set_option maxHeartbeats 4000000

theorem same_rE (l : List Ent) (hl : l.length ≤ 1048576) (hn : 1048577 < n) : runFn T n (d + 1) 27 [.dat (rE l), .dat (rE l)] [] = some (.dat (.bool true), []) := by
  have c2 := e_plain_SameEntries (n := n) (d := d) (l ++ [sealE]) (by simp; omega) hn
  simp only [encLog, List.map_append, List.map_cons, List.map_nil] at c2
  exact c2
theorem same_rD (l : List Draw) (hl : l.length ≤ 1048576) (hn : 1048577 < n) : runFn T n (d + 1) 28 [.dat (rD l), .dat (rD l)] [] = some (.dat (.bool true), []) := by
  have c2 := e_plain_SameVector (n := n) (d := d) (l ++ [sealD]) (by simp; omega) hn
  simp only [encV, List.map_append, List.map_cons, List.map_nil] at c2
  exact c2

end Go.Ax

namespace Go.Ax
set_option linter.all false
variable {n d : Nat}
set_option maxRecDepth 10000
set_option linter.unusedSimpArgs false
set_option maxHeartbeats 4000000

theorem e_num (k : Int) : runFn T n (d + 1) 9 [.dat (di k)] [] = some (.dat (di k), []) := by
  rw [runFn_succ]
  simp [T, xf_law09_num]
def gsL (s : State) : List (List Ent) := s.log :: (s.ballots.map (·.log) ++ s.answers.map (·.log))
theorem gsL_map (s : State) : gsE1 s s.answers = (gsL s).map rE := by simp [gsE1, gsL, Function.comp_def]
theorem gsL_len (s : State) : (gsL s).length = (gsE1 s s.answers).length := by rw [gsL_map]; simp
theorem Small2.wait {s : State} (hs : Small2 s) (c : Cfg) : Small (waitS c s) := by
  have h := hs.toSmall
  unfold waitS
  split
  · exact ⟨by simp [zeroS], by simp [zeroS], by simp [zeroS], by simp [zeroS], by simp [zeroS], by simp [zeroS], by simp [zeroS], by simp [zeroS]⟩
  · split
    · exact h
    · split
      · exact ⟨h.log, h.vector, h.acks, h.marks, h.ballots, h.answers, h.blogs, h.alogs⟩
      · exact ⟨h.log, h.vector, h.acks, h.marks, h.ballots, h.answers, h.blogs, h.alogs⟩
end Go.Ax

namespace Go.Ax
set_option linter.all false
variable {n d : Nat}
set_option maxRecDepth 10000
set_option maxHeartbeats 4000000

structure SmallM (m : Msg) : Prop where
  log : m.log.length ≤ 1048576
  vector : m.vector.length ≤ 1048576
def between (k : Int) : Bool := decide (3 ≤ k) && decide (k ≤ 12)
theorem e_message_Between (k : Int) : runFn T n (d + 1) 41 [.dat (di k)] [] = some (.dat (.bool (between k)), []) := by
  rw [runFn_succ]
  simp [T, xf_message_Between, between]
def stampM (s : State) (m : Msg) : Msg := { m with node := s.self, vector := if between m.kind then s.vector else m.vector }
theorem SmallM.stamp {s : State} {m : Msg} (hs : Small2 s) (hm : SmallM m) : SmallM (stampM s m) := ⟨hm.log, by unfold stampM; simp only; split; exact hs.vector2; exact hm.vector⟩
def outM (s : State) (to : Int) (m : Msg) : Send := ⟨to, stampM s m⟩
/-! ### one -/
def zeroM : Msg := ⟨0, 0, 0, ⟨0, 0, ⟨0, 0, ByteArray.empty⟩⟩, ⟨0, 0, ByteArray.empty⟩, 0, 0, 0, ⟨0, 0⟩, [], []⟩
def toOk (c : Cfg) (s : State) (to : Int) : Bool := (decide (0 ≤ to) && (decide (to < nodesOf c) && !decide (to = s.self))) || (decide (7 ≤ to) && decide (to < 23))
def oneErr (c : Cfg) (s : State) (to : Int) : Int := if stateErr c s ≠ 0 then stateErr c s else if toOk c s to then 0 else 3
def oneS (c : Cfg) (s : State) (to : Int) (m : Msg) : Send := if oneErr c s to ≠ 0 then ⟨0, zeroM⟩ else outM s to m
/-! ### all -/
def goTo (s : State) (m : Msg) (acc : List Send) (i : Nat) : List Send := if (i : Int) = s.self then acc else acc ++ [outM s i m]
def allS (c : Cfg) (s : State) (m : Msg) : List Send := (List.range (nodesOf c).toNat).foldl (goTo s m) []
theorem goTo_len {s : State} {m : Msg} {acc : List Send} {i : Nat} (h : acc.length ≤ i) : (goTo s m acc i).length ≤ i + 1 := by
  unfold goTo
  split
  · omega
  · simpa using h
def S_All (s : State) (m : Msg) (N : Int) (i : Nat) (acc : List Send) : St := ⟨[(4, .ptr 0 0), (5, .ptr 1 0), (9, .own 2 0 acc.length), (18, .dat (di N)), (19, .dat (di i))], [.box ((cellsS s).map .dat), .box ((cellsM m).map .dat), .arr 101 19 false false (acc.map encSd)]⟩
theorem nodes_le {c : Cfg} : 0 ≤ nodesOf c ∧ nodesOf c ≤ 100 := by
  unfold nodesOf cfgOk
  split <;> omega
def S_AllR (c : Cfg) (s : State) (m : Msg) (i : Nat) (acc : List Send) : St := ⟨[(3, .ptr 0 0), (4, .ptr 1 0), (5, .ptr 2 0), (9, .own 3 0 acc.length), (10, .dat (di i))], [.box [.dat (di c.f), .dat (di c.room), .dat (di c.patience), .dat (.bool c.unguarded)], .box ((cellsS s).map .dat), .box ((cellsM m).map .dat), .arr 101 19 false false (acc.map encSd)]⟩
/-! ### are they one -/
def S_SameSends (l : List Send) (i : Nat) : St := ⟨[(0, .dat (encSds l)), (1, .dat (encSds l)), (5, .dat (di i))], []⟩
theorem allS_small {c : Cfg} {s : State} {m : Msg} (hs : Small2 s) (hm : SmallM m) : (allS c s m).length ≤ 1048577 ∧ ∀ x ∈ allS c s m, SmallM x.msg := by
  have key : ∀ (l : List Nat) (acc : List Send), (∀ x ∈ acc, SmallM x.msg) → (l.foldl (goTo s m) acc).length ≤ acc.length + l.length ∧ ∀ x ∈ l.foldl (goTo s m) acc, SmallM x.msg := by
    intro l
    induction l with
    | nil => intro acc h; exact ⟨by simp, h⟩
    | cons i r ih =>
      intro acc h
      obtain ⟨h1, h2⟩ := ih (goTo s m acc i) (by
        unfold goTo
        split
        · exact h
        · intro x hx
          rcases List.mem_append.1 hx with hx | hx
          · exact h x hx
          · simp at hx; subst hx; exact hm.stamp hs)
      refine ⟨?_, h2⟩
      have := goTo_len (s := s) (m := m) (acc := acc) (i := acc.length) (Nat.le_refl _)
      have h3 : (goTo s m acc i).length ≤ acc.length + 1 := by unfold goTo; split <;> simp
      simp only [List.foldl_cons, List.length_cons]
      omega
  obtain ⟨n1, n2⟩ := nodes_le (c := c)
  obtain ⟨h1, h2⟩ := key (List.range (nodesOf c).toNat) [] (by simp)
  refine ⟨?_, h2⟩
  unfold allS
  simp at h1
  omega
end Go.Ax

namespace Go.Ax
set_option linter.all false
variable {n d : Nat}
set_option maxRecDepth 10000
set_option maxHeartbeats 4000000

end Go.Ax
