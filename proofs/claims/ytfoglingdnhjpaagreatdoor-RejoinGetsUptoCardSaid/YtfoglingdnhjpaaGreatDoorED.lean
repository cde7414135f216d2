/-
  Copies.
-/
import Derived.Test.YtfoglingdnhjpaaGreatDoorEC
namespace Go.Ax
set_option linter.all false
variable {n d : Nat}
set_option maxRecDepth 10000
set_option maxHeartbeats 4000000
abbrev arrE (l : List Ent) : Blk := .arr 50 5 true false (l.map encE)
abbrev arrV (l : List Draw) : Blk := .arr 26 2 true false (l.map encD)
abbrev arrK (l : List Ack) : Blk := .arr 123 4 true false (l.map encAck)
abbrev arrM (l : List Mark) : Blk := .arr 125 3 true false (l.map encMark)
abbrev arrB (l : List Ballot) : Blk := .arr 98 6 false false (l.map encBal)
abbrev arrA (l : List Answer) : Blk := .arr 100 6 false false (l.map encAns)
theorem e_plain_CopyEntries (l : List Ent) (hl : l.length ≤ 1048577) : runFn T n (d + 1) 93 [.dat (encLog l)] [] = some (.own 0 0 l.length, [arrE l]) := by
 rw [runFn_succ]
 simp [T, xf_plain_CopyEntries, lim_le hl]
theorem e_plain_CopyVector (l : List Draw) (hl : l.length ≤ 1048577) : runFn T n (d + 1) 35 [.dat (encV l)] [] = some (.own 0 0 l.length, [arrV l]) := by
 rw [runFn_succ]
 simp [T, xf_plain_CopyVector, lim_le hl]
abbrev boxP (s : State) (b a : AV) : Blk := .box [.dat (di s.self), .dat (di s.status), .dat (di s.view), .dat (di s.last), .own 1 0 s.log.length, .dat (di s.commit), .own 2 0 s.vector.length, .dat (di s.idle), .own 3 0 s.acks.length, .own 4 0 s.marks.length, b, a]
def S_cp0 (s : State) (p : List Ballot) : St := ⟨[(1, .ptr 0 0), (2, .ptr 5 0), (3, .own 6 0 p.length), (4, .dat (di p.length))], [boxP s (.dat (encBals s.ballots)) (.dat (encAnss s.answers)), arrE s.log, arrV s.vector, arrK s.acks, arrM s.marks, boxZ, arrB p]⟩
theorem l_plain_CopyState0 (s : State) (hs : Small s) (hn : 1048577 < n) : loopAt (XCode.run (runFn T n (d + 1)) n 0 xf_plain_CopyState_b0) (headOf 0 xf_plain_CopyState_k0) n (S_cp0 s []) = some (.exit 0, ⟨[(1, .ptr 0 0), (2, .ptr 5 0), (3, .own 6 0 s.ballots.length)], (S_cp0 s s.ballots).H⟩) := by
 have hl := hs.ballots
 refine loop_pre (S_cp0 s) s.ballots _ (fun p v r hl => ?_) ?_ (fun s h => by simp at h) n (by omega)
 ·have hx : (p.length : Int) < p.length + (r.length + 1) := by omega
  have hp : p.length ≤ 1048577 := by have : s.ballots.length = p.length + (r.length + 1) := (by simp [hl]); omega
  have hw := wrap_i p.length (by omega)
  have hL : p.length + 1 ≤ LIM := by simp only [LIM]; omega
  have hc := e_plain_CopyEntries (n := n) (d := d) v.log (hs.blogs v (by rw [hl]; simp))
  simp at hw
  simp [xf_plain_CopyState_b0, xf_plain_CopyState_k0, S_cp0, hl, hx, hw, hL, hc]
 ·simp [xf_plain_CopyState_b0, S_cp0]
def S_cp1 (s : State) (p : List Answer) : St := ⟨[(1, .ptr 0 0), (2, .ptr 6 0), (6, .own 7 0 p.length), (7, .dat (di p.length))], [boxP s (.own 5 0 s.ballots.length) (.dat (encAnss s.answers)), arrE s.log, arrV s.vector, arrK s.acks, arrM s.marks, arrB s.ballots, boxZ, arrA p]⟩
theorem l_plain_CopyState1 (s : State) (hs : Small s) (hn : 1048577 < n) : loopAt (XCode.run (runFn T n (d + 1)) n 0 xf_plain_CopyState_b1) (headOf 0 xf_plain_CopyState_k1) n (S_cp1 s []) = some (.exit 2, ⟨[(1, .ptr 0 0), (2, .ptr 6 0), (6, .own 7 0 s.answers.length)], (S_cp1 s s.answers).H⟩) := by
 have hl := hs.answers
 refine loop_pre (S_cp1 s) s.answers _ (fun p v r hl => ?_) ?_ (fun s h => by simp at h) n (by omega)
 ·have hx : (p.length : Int) < p.length + (r.length + 1) := by omega
  have hp : p.length ≤ 1048577 := by have : s.answers.length = p.length + (r.length + 1) := (by simp [hl]); omega
  have hw := wrap_i p.length (by omega)
  have hL : p.length + 1 ≤ LIM := by simp only [LIM]; omega
  have hc := e_plain_CopyEntries (n := n) (d := d) v.log (hs.alogs v (by rw [hl]; simp))
  simp at hw
  simp [xf_plain_CopyState_b1, xf_plain_CopyState_k1, S_cp1, hl, hx, hw, hL, hc]
 ·simp [xf_plain_CopyState_b1, S_cp1]
abbrev copyAV (s : State) : AV := .agg [.dat (di s.self), .dat (di s.status), .dat (di s.view), .dat (di s.last), .own 0 0 s.log.length, .dat (di s.commit), .own 1 0 s.vector.length, .dat (di s.idle), .own 2 0 s.acks.length, .own 3 0 s.marks.length, .own 4 0 s.ballots.length, .own 5 0 s.answers.length]
abbrev copyH (s : State) : List Blk := [arrE s.log, arrV s.vector, arrK s.acks, arrM s.marks, arrB s.ballots, arrA s.answers]
theorem e_plain_CopyState (s : State) (hs : Small s) (hn : 1048577 < n) : runFn T n (d + 2) 49 [.dat (encS s)] [] = some (copyAV s, copyH s) := by
 have c1 := e_plain_CopyEntries (n := n) (d := d) s.log hs.log
 have c2 := e_plain_CopyVector (n := n) (d := d) s.vector hs.vector
 have q1 := lim_le hs.acks
 have q2 := lim_le hs.marks
 have h0 := l_plain_CopyState0 (d := d) s hs hn
 have h1 := l_plain_CopyState1 (d := d) s hs hn
 simp [S_cp0, S_cp1, xf_plain_CopyState_k0, xf_plain_CopyState_k1, arrB, arrA] at h0 h1
 rw [runFn_succ]
 simp [T, xf_plain_CopyState, c1, c2, q1, q2, xf_plain_CopyState_k0, xf_plain_CopyState_k1, h0, h1]
end Go.Ax
namespace Go.Ax
set_option linter.all false
variable {n d : Nat}
set_option maxRecDepth 10000
set_option maxHeartbeats 4000000
def S_SameEntries (l : List Ent) (i : Nat) : St := ⟨[(0, .dat (encLog l)), (1, .dat (encLog l)), (5, .dat (di i))], []⟩
theorem e_plain_SameEntries (l : List Ent) (hl : l.length ≤ 1048577) (hn : 1048577 < n) : runFn T n (d + 1) 27 [.dat (encLog l), .dat (encLog l)] [] = some (.dat (.bool true), []) := by
 have h0 : loopAt (XCode.run (runFn T n (d + 0)) n 0 xf_plain_SameEntries_b0) (headOf 0 xf_plain_SameEntries_k0) n (S_SameEntries l 0) = some (.exit 0, ⟨[], []⟩) := by
  refine loop_for (S_SameEntries l) l.length _ (fun i hi => nextK_some ?_) ?_ (fun s h => by simp at h) n (by omega)
  ·have hi' : (i : Int) < l.length := by omega
   have hw := wrap_i i (by omega)
   simp [xf_plain_SameEntries_b0, xf_plain_SameEntries_k0, S_SameEntries, hi, hi', hw]
  ·simp [xf_plain_SameEntries_b0, S_SameEntries]
 simp [S_SameEntries, xf_plain_SameEntries_k0] at h0
 rw [runFn_succ]
 simp [T, xf_plain_SameEntries, xf_plain_SameEntries_k0, h0]
def S_SameVector (l : List Draw) (i : Nat) : St := ⟨[(0, .dat (encV l)), (1, .dat (encV l)), (5, .dat (di i))], []⟩
theorem e_plain_SameVector (l : List Draw) (hl : l.length ≤ 1048577) (hn : 1048577 < n) : runFn T n (d + 1) 34 [.dat (encV l), .dat (encV l)] [] = some (.dat (.bool true), []) := by
 have h0 : loopAt (XCode.run (runFn T n (d + 0)) n 0 xf_plain_SameVector_b0) (headOf 0 xf_plain_SameVector_k0) n (S_SameVector l 0) = some (.exit 0, ⟨[], []⟩) := by
  refine loop_for (S_SameVector l) l.length _ (fun i hi => nextK_some ?_) ?_ (fun s h => by simp at h) n (by omega)
  ·have hi' : (i : Int) < l.length := by omega
   have hw := wrap_i i (by omega)
   simp [xf_plain_SameVector_b0, xf_plain_SameVector_k0, S_SameVector, hi, hi', hw]
  ·simp [xf_plain_SameVector_b0, S_SameVector]
 simp [S_SameVector, xf_plain_SameVector_k0] at h0
 rw [runFn_succ]
 simp [T, xf_plain_SameVector, xf_plain_SameVector_k0, h0]
def S_sameAcks (l : List Ack) (i : Nat) : St := ⟨[(0, .dat (encAcks l)), (1, .dat (encAcks l)), (5, .dat (di i))], []⟩
theorem e_plain_sameAcks (l : List Ack) (hl : l.length ≤ 1048577) (hn : 1048577 < n) : runFn T n (d + 1) 71 [.dat (encAcks l), .dat (encAcks l)] [] = some (.dat (.bool true), []) := by
 have h0 : loopAt (XCode.run (runFn T n (d + 0)) n 0 xf_plain_sameAcks_b0) (headOf 0 xf_plain_sameAcks_k0) n (S_sameAcks l 0) = some (.exit 0, ⟨[], []⟩) := by
  refine loop_for (S_sameAcks l) l.length _ (fun i hi => nextK_some ?_) ?_ (fun s h => by simp at h) n (by omega)
  ·have hi' : (i : Int) < l.length := by omega
   have hw := wrap_i i (by omega)
   simp [xf_plain_sameAcks_b0, xf_plain_sameAcks_k0, S_sameAcks, hi, hi', hw]
  ·simp [xf_plain_sameAcks_b0, S_sameAcks]
 simp [S_sameAcks, xf_plain_sameAcks_k0] at h0
 rw [runFn_succ]
 simp [T, xf_plain_sameAcks, xf_plain_sameAcks_k0, h0]
def S_sameMarks (l : List Mark) (i : Nat) : St := ⟨[(0, .dat (encMarks l)), (1, .dat (encMarks l)), (5, .dat (di i))], []⟩
theorem e_plain_sameMarks (l : List Mark) (hl : l.length ≤ 1048577) (hn : 1048577 < n) : runFn T n (d + 1) 72 [.dat (encMarks l), .dat (encMarks l)] [] = some (.dat (.bool true), []) := by
 have h0 : loopAt (XCode.run (runFn T n (d + 0)) n 0 xf_plain_sameMarks_b0) (headOf 0 xf_plain_sameMarks_k0) n (S_sameMarks l 0) = some (.exit 0, ⟨[], []⟩) := by
  refine loop_for (S_sameMarks l) l.length _ (fun i hi => nextK_some ?_) ?_ (fun s h => by simp at h) n (by omega)
  ·have hi' : (i : Int) < l.length := by omega
   have hw := wrap_i i (by omega)
   simp [xf_plain_sameMarks_b0, xf_plain_sameMarks_k0, S_sameMarks, hi, hi', hw]
  ·simp [xf_plain_sameMarks_b0, S_sameMarks]
 simp [S_sameMarks, xf_plain_sameMarks_k0] at h0
 rw [runFn_succ]
 simp [T, xf_plain_sameMarks, xf_plain_sameMarks_k0, h0]
def S_SameBallots (l : List Ballot) (i : Nat) : St := ⟨[(0, .dat (encBals l)), (1, .dat (encBals l)), (5, .dat (di i))], []⟩
theorem e_plain_SameBallots (l : List Ballot) (hl : l.length ≤ 1048577) (hb : ∀ b ∈ l, b.log.length ≤ 1048577) (hn : 1048577 < n) : runFn T n (d + 2) 73 [.dat (encBals l), .dat (encBals l)] [] = some (.dat (.bool true), []) := by
 have h0 : loopAt (XCode.run (runFn T n (d + 1)) n 0 xf_plain_SameBallots_b0) (headOf 0 xf_plain_SameBallots_k0) n (S_SameBallots l 0) = some (.exit 0, ⟨[], []⟩) := by
  refine loop_for (S_SameBallots l) l.length _ (fun i hi => nextK_some ?_) ?_ (fun s h => by simp at h) n (by omega)
  ·have hi' : (i : Int) < l.length := by omega
   have hw := wrap_i i (by omega)
   have hE := e_plain_SameEntries (n := n) (d := d) l[i].log (hb _ (List.getElem_mem hi)) hn
   simp [xf_plain_SameBallots_b0, xf_plain_SameBallots_k0, S_SameBallots, hi, hi', hw, hE]
  ·simp [xf_plain_SameBallots_b0, S_SameBallots]
 simp [S_SameBallots, xf_plain_SameBallots_k0] at h0
 rw [runFn_succ]
 simp [T, xf_plain_SameBallots, xf_plain_SameBallots_k0, h0]
def S_SameAnswers (l : List Answer) (i : Nat) : St := ⟨[(0, .dat (encAnss l)), (1, .dat (encAnss l)), (5, .dat (di i))], []⟩
theorem e_plain_SameAnswers (l : List Answer) (hl : l.length ≤ 1048577) (hb : ∀ b ∈ l, b.log.length ≤ 1048577) (hn : 1048577 < n) : runFn T n (d + 2) 74 [.dat (encAnss l), .dat (encAnss l)] [] = some (.dat (.bool true), []) := by
 have h0 : loopAt (XCode.run (runFn T n (d + 1)) n 0 xf_plain_SameAnswers_b0) (headOf 0 xf_plain_SameAnswers_k0) n (S_SameAnswers l 0) = some (.exit 0, ⟨[], []⟩) := by
  refine loop_for (S_SameAnswers l) l.length _ (fun i hi => nextK_some ?_) ?_ (fun s h => by simp at h) n (by omega)
  ·have hi' : (i : Int) < l.length := by omega
   have hw := wrap_i i (by omega)
   have hE := e_plain_SameEntries (n := n) (d := d) l[i].log (hb _ (List.getElem_mem hi)) hn
   simp [xf_plain_SameAnswers_b0, xf_plain_SameAnswers_k0, S_SameAnswers, hi, hi', hw, hE]
  ·simp [xf_plain_SameAnswers_b0, S_SameAnswers]
 simp [S_SameAnswers, xf_plain_SameAnswers_k0] at h0
 rw [runFn_succ]
 simp [T, xf_plain_SameAnswers, xf_plain_SameAnswers_k0, h0]
theorem e_plain_SameState (s : State) (hs : Small s) (hn : 1048577 < n) : runFn T n (d + 3) 38 [.dat (encS s), .dat (encS s)] [] = some (.dat (.bool true), []) := by
 have h1 := e_plain_SameEntries (n := n) (d := d + 1) s.log hs.log hn
 have h2 := e_plain_SameVector (n := n) (d := d + 1) s.vector hs.vector hn
 have h3 := e_plain_sameAcks (n := n) (d := d + 1) s.acks hs.acks hn
 have h4 := e_plain_sameMarks (n := n) (d := d + 1) s.marks hs.marks hn
 have h5 := e_plain_SameBallots (n := n) (d := d) s.ballots hs.ballots hs.blogs hn
 have h6 := e_plain_SameAnswers (n := n) (d := d) s.answers hs.answers hs.alogs hn
 rw [runFn_succ]
 simp [T, xf_plain_SameState, h1, h2, h3, h4, h5, h6]
end Go.Ax
namespace Go.Ax
set_option linter.all false
variable {n d : Nat}
set_option maxRecDepth 10000
set_option maxHeartbeats 4000000
def sealE : Ent := ⟨-77, -88, ⟨0, 0, ByteArray.empty⟩⟩
def sealD : Draw := ⟨77, 88⟩
abbrev boxG (de dw en ew st sw : AV) : Blk := .box [.nil 106 1 false, .nil 106 1 false, de, dw, en, ew, .nil 108 1 false, .nil 108 1 false, st, sw]
abbrev nD : AV := .nil 30 1 false
abbrev nE : AV := .nil 28 1 false
abbrev nS : AV := .nil 36 12 false
abbrev rawE : Dat := .agg [.int .i64 (-77), .int .i64 (-88), .int .i64 0, .int .i64 0, .str ⟨#[]⟩]
abbrev rawD : Dat := .agg [.int .u64 77, .int .u64 88]
theorem take_snoc {α : Type} (f : α → Dat) (l : List α) (x : Dat) : (l.map f ++ [x]).take (l.length + 1) = l.map f ++ [x] := List.take_of_length_le (by simp)
theorem take_ahead {α : Type} (f : α → Dat) (l : List α) (r : List Dat) : (l.map f ++ r).take l.length = l.map f := by rw [List.take_append_of_le_length (by simp), List.take_of_length_le (by simp)]
theorem copy_rawE (l : List Ent) (hl : l.length ≤ 1048576) : runFn T n (d + 1) 93 [.dat (.sl 5 true (l.map encE ++ [rawE]))] [] = some (.own 0 0 (l.length + 1), [.arr 50 5 true false (l.map encE ++ [rawE])]) := by
 have c2 := e_plain_CopyEntries (n := n) (d := d) (l ++ [sealE]) (by simp; omega)
 simp only [encLog, arrE, List.map_append, List.map_cons, List.map_nil, List.length_append, List.length_cons, List.length_nil] at c2
 exact c2
theorem copy_rawD (l : List Draw) (hl : l.length ≤ 1048576) : runFn T n (d + 1) 35 [.dat (.sl 2 true (l.map encD ++ [rawD]))] [] = some (.own 0 0 (l.length + 1), [.arr 26 2 true false (l.map encD ++ [rawD])]) := by
 have c2 := e_plain_CopyVector (n := n) (d := d) (l ++ [sealD]) (by simp; omega)
 simp only [encV, arrV, List.map_append, List.map_cons, List.map_nil, List.length_append, List.length_cons, List.length_nil] at c2
 exact c2
abbrev frzE (l : List Ent) : Blk := .arr 50 5 true true (l.map encE ++ [rawE])
abbrev frzD (l : List Draw) : Blk := .arr 26 2 true true (l.map encD ++ [rawD])
abbrev lD (D : List Dat) : Blk := .arr 30 1 false false D
abbrev lE (D : List Dat) : Blk := .arr 28 1 false false D
abbrev lS (D : List Dat) : Blk := .arr 36 12 false false D
abbrev rE (l : List Ent) : Dat := .sl 5 true (l.map encE ++ [rawE])
abbrev rD (l : List Draw) : Dat := .sl 2 true (l.map encD ++ [rawD])
theorem g_Entries2 (l : List Ent) (hl : l.length ≤ 1048576) (D D' E F : List Dat) (hD : D.length = D'.length) (h0 : 0 < D.length) (hE : E.length ≤ 6000000) (hF : E.length = F.length) (he : 0 < E.length) : runFn T n (d + 2) 50 [.ptr 0 0, .dat (encLog l)]
     [boxG (.own 1 0 D.length) (.own 2 0 D.length) (.own 3 0 E.length) (.own 4 0 E.length) nS nS, lD D, lD D', lE E, lE F] =
  some (.own 5 0 l.length, [boxG (.own 1 0 D.length) (.own 2 0 D.length) (.own 6 0 (E.length + 1)) (.own 7 0 (E.length + 1)) nS nS, lD D, lD D', .dead, .dead, frzE l, lE (E ++ [rE l]), lE (F ++ [rE l])]) := by
 have c := e_plain_CopyEntries (n := n) (d := d) l (by omega)
 have c2 := copy_rawE (n := n) (d := d) l hl
 have h2 : l.length + 1 ≤ LIM := by simp only [LIM]; omega
 have h3 : (l.length : Int) ≤ (l.length : Int) + 1 := by omega
 have h5 : F.length + 1 ≤ LIM := by simp only [LIM]; omega
 rw [runFn_succ]
 simp [T, xf_plain_Given_Entries, c, h2, c2, take_snoc, h3, hD, hF, h5]
end Go.Ax
namespace Go.Ax
set_option linter.all false
variable {n d : Nat}
set_option maxRecDepth 10000
set_option maxHeartbeats 4000000
theorem g_Entries0x (l : List Ent) (hl : l.length ≤ 1048576) : runFn T n (d + 2) 50 [.ptr 0 0, .dat (encLog l)] [boxG nD nD nE nE nS nS, .arr 50 5 true true (l.map encE)] =
  some (.own 2 0 l.length, [boxG nD nD (.own 3 0 1) (.own 4 0 1) nS nS, .arr 50 5 true true (l.map encE), frzE l, lE [rE l], lE [rE l]]) := by
 have c := e_plain_CopyEntries (n := n) (d := d) l (by omega)
 have c2 := copy_rawE (n := n) (d := d) l hl
 have h2 : l.length + 1 ≤ LIM := by simp only [LIM]; omega
 have h3 : (l.length : Int) ≤ (l.length : Int) + 1 := by omega
 rw [runFn_succ]
 simp [T, xf_plain_Given_Entries, c, h2, c2, take_snoc, h3]
theorem g_Vector1x (l : List Draw) (hl : l.length ≤ 1048576) (E F : List Dat) (hF : E.length = F.length) : runFn T n (d + 2) 51 [.ptr 0 0, .dat (encV l)] [boxG nD nD (.own 1 0 E.length) (.own 2 0 E.length) nS nS, lE E, lE F, .arr 26 2 true true (l.map encD)] =
  some (.own 4 0 l.length, [boxG (.own 5 0 1) (.own 6 0 1) (.own 1 0 E.length) (.own 2 0 E.length) nS nS, lE E, lE F, .arr 26 2 true true (l.map encD), frzD l, lD [rD l], lD [rD l]]) := by
 have c := e_plain_CopyVector (n := n) (d := d) l (by omega)
 have c2 := copy_rawD (n := n) (d := d) l hl
 have h2 : l.length + 1 ≤ LIM := by simp only [LIM]; omega
 have h3 : (l.length : Int) ≤ (l.length : Int) + 1 := by omega
 rw [runFn_succ]
 simp [T, xf_plain_Given_Vector, c, h2, c2, take_snoc, h3, hF]
abbrev boxQ (s : State) : Blk := .box [.dat (di s.self), .dat (di s.status), .dat (di s.view), .dat (di s.last), .own 6 0 s.log.length, .dat (di s.commit), .own 7 0 s.vector.length, .dat (di s.idle), .own 8 0 s.acks.length, .own 9 0 s.marks.length, .own 10 0 s.ballots.length, .own 11 0 s.answers.length]
def gsH (s : State) (E : List Dat) : List Blk := [boxG (.own 1 0 1) (.own 2 0 1) (.own 3 0 E.length) (.own 4 0 E.length) nS nS, lD [rD s.vector], lD [rD s.vector], lE E, lE E, boxQ s, frzE s.log, frzD s.vector, arrK s.acks, arrM s.marks, arrB s.ballots, arrA s.answers, boxZ]
def gsE0 (s : State) (p : List Ballot) : List Dat := rE s.log :: p.map fun b => rE b.log
def gsE1 (s : State) (p : List Answer) : List Dat := rE s.log :: (s.ballots.map (fun b => rE b.log) ++ p.map fun b => rE b.log)
def S_gs0 (s : State) (p : List Ballot) : St := ⟨[(0, .ptr 0 0), (3, .ptr 5 0), (4, .ptr 12 0), (5, .dat (di p.length))], gsH s (gsE0 s p)⟩
structure Small2 (s : State) : Prop extends Small s where
 log2 : s.log.length ≤ 1048576
 vector2 : s.vector.length ≤ 1048576
 blogs2 : ∀ b ∈ s.ballots, b.log.length ≤ 1048576
 alogs2 : ∀ b ∈ s.answers, b.log.length ≤ 1048576
theorem l_gs0 (s : State) (hs : Small2 s) (hn : 1048577 < n) : loopAt (XCode.run (runFn T n (d + 2)) n 1 xf_plain_Given_State_b0) (headOf 1 xf_plain_Given_State_k0) n (S_gs0 s []) = some (.exit 0, ⟨[(0, .ptr 0 0), (3, .ptr 5 0), (4, .ptr 12 0)], gsH s (gsE0 s s.ballots)⟩) := by
 have hl := hs.ballots
 refine loop_pre (S_gs0 s) s.ballots _ (fun p v r hl => ?_) ?_ (fun s h => by simp at h) n (by omega)
 ·have hx : (p.length : Int) < p.length + (r.length + 1) := by omega
  have hlen : s.ballots.length = p.length + (r.length + 1) := by simp [hl]
  have hp : p.length ≤ 1048577 := by omega
  have hpp : p.length < s.ballots.length := by omega
  have hpi : (p.length : Int) < s.ballots.length := by omega
  have hg : s.ballots[p.length] = v := by simp [hl]
  have hw := wrap_i p.length (by omega)
  have hc := g_Entries2 (n := n) (d := d) v.log (hs.blogs2 v (by rw [hl]; simp)) [rD s.vector] [rD s.vector] (gsE0 s p) (gsE0 s p) rfl (by simp) (by simp [gsE0]; omega) rfl (by simp [gsE0])
  have hset := set_map encBal s.ballots p.length hpp
  rw [hg] at hset
  have hE : gsE0 s (p ++ [v]) = gsE0 s p ++ [rE v.log] := by simp [gsE0]
  have hEl : (gsE0 s p ++ [rE v.log]).length = (gsE0 s p).length + 1 := by simp
  simp at hw
  simp only [List.length_cons, List.length_nil, Nat.zero_add] at hc
  simp only [S_gs0, hE, gsH, hEl]
  generalize gsE0 s p = E at hc ⊢
  simp [xf_plain_Given_State_b0, xf_plain_Given_State_k0, hpp, hpi, hg, hw, hc, take_ahead, hset]
 ·simp [xf_plain_Given_State_b0, S_gs0, gsH]
def S_gs1 (s : State) (p : List Answer) : St := ⟨[(0, .ptr 0 0), (3, .ptr 5 0), (4, .ptr 12 0), (6, .dat (di p.length))], gsH s (gsE1 s p)⟩
theorem l_gs1 (s : State) (hs : Small2 s) (hn : 1048577 < n) : loopAt (XCode.run (runFn T n (d + 2)) n 1 xf_plain_Given_State_b1) (headOf 1 xf_plain_Given_State_k1) n (S_gs1 s []) = some (.exit 2, ⟨[(0, .ptr 0 0), (3, .ptr 5 0), (4, .ptr 12 0)], gsH s (gsE1 s s.answers)⟩) := by
 have hl := hs.answers
 have hsum := hs.ballots
 refine loop_pre (S_gs1 s) s.answers _ (fun p v r hl => ?_) ?_ (fun s h => by simp at h) n (by omega)
 ·have hx : (p.length : Int) < p.length + (r.length + 1) := by omega
  have hlen : s.answers.length = p.length + (r.length + 1) := by simp [hl]
  have hp : p.length ≤ 1048577 := by omega
  have hpp : p.length < s.answers.length := by omega
  have hpi : (p.length : Int) < s.answers.length := by omega
  have hg : s.answers[p.length] = v := by simp [hl]
  have hw := wrap_i p.length (by omega)
  have hc := g_Entries2 (n := n) (d := d) v.log (hs.alogs2 v (by rw [hl]; simp)) [rD s.vector] [rD s.vector] (gsE1 s p) (gsE1 s p) rfl (by simp) (by simp [gsE1]; omega) rfl (by simp [gsE1])
  have hset := set_map encAns s.answers p.length hpp
  rw [hg] at hset
  have hE : gsE1 s (p ++ [v]) = gsE1 s p ++ [rE v.log] := by simp [gsE1]
  have hEl : (gsE1 s p ++ [rE v.log]).length = (gsE1 s p).length + 1 := by simp
  simp at hw
  simp only [List.length_cons, List.length_nil, Nat.zero_add] at hc
  simp only [S_gs1, hE, gsH, hEl]
  generalize gsE1 s p = E at hc ⊢
  simp [xf_plain_Given_State_b1, xf_plain_Given_State_k1, hpp, hpi, hg, hw, hc, take_ahead, hset]
 ·simp [xf_plain_Given_State_b1, S_gs1, gsH]
theorem gsE01 (s : State) : gsE1 s [] = gsE0 s s.ballots := by simp [gsE1, gsE0]
def givAV (s : State) : AV := .agg [.dat (di s.self), .dat (di s.status), .dat (di s.view), .dat (di s.last), .own 1 0 s.log.length, .dat (di s.commit), .own 2 0 s.vector.length, .dat (di s.idle), .own 3 0 s.acks.length, .own 4 0 s.marks.length, .own 5 0 s.ballots.length, .own 6 0 s.answers.length]
def givH (s : State) : List Blk := [boxG (.own 7 0 1) (.own 8 0 1) (.own 9 0 (gsE1 s s.answers).length) (.own 10 0 (gsE1 s s.answers).length) (.own 11 0 1) (.own 12 0 1), frzE s.log, frzD s.vector,
 .arr 123 4 true true (s.acks.map encAck), .arr 125 3 true true (s.marks.map encMark), .arr 98 6 false true (s.ballots.map encBal), .arr 100 6 false true (s.answers.map encAns),
 lD [rD s.vector], lD [rD s.vector], lE (gsE1 s s.answers), lE (gsE1 s s.answers), lS [encS s], lS [encS s]]
theorem e_Given_State (s : State) (hs : Small2 s) (hn : 1048577 < n) : runFn T n (d + 3) 18 [.ptr 0 0, .dat (encS s)] [boxG nD nD nE nE nS nS] = some (givAV s, givH s) := by
 have c := e_plain_CopyState (n := n) (d := d) s hs.toSmall hn
 have g1 := g_Entries0x (n := n) (d := d) s.log hs.log2
 have g2 := g_Vector1x (n := n) (d := d) s.vector hs.vector2 [rE s.log] [rE s.log] rfl
 have h0 := l_gs0 (d := d) s hs hn
 have h1 := l_gs1 (d := d) s hs hn
 simp only [S_gs0, S_gs1, gsE01, xf_plain_Given_State_k0, xf_plain_Given_State_k1, List.length_nil, Int.natCast_zero] at h0 h1
 have e0 : gsE0 s [] = [rE s.log] := rfl
 rw [e0] at h0
 generalize gsE0 s s.ballots = E0 at h0 h1
 unfold givH
 generalize gsE1 s s.answers = E1 at h0 h1 ⊢
 simp only [gsH, List.length_cons, List.length_nil, Nat.zero_add] at h0 h1
 simp at g2
 rw [runFn_succ]
 simp [T, xf_plain_Given_State, xf_plain_Given_State_k0, xf_plain_Given_State_k1, c, g1, g2, h0, h1, take_ahead, givAV]
end Go.Ax
namespace Go.Ax
set_option linter.all false
variable {n d : Nat}
set_option maxRecDepth 10000
set_option maxHeartbeats 4000000
theorem same_rE (l : List Ent) (hl : l.length ≤ 1048576) (hn : 1048577 < n) : runFn T n (d + 1) 27 [.dat (rE l), .dat (rE l)] [] = some (.dat (.bool true), []) := by
 have c2 := e_plain_SameEntries (n := n) (d := d) (l ++ [sealE]) (by simp; omega) hn
 simp only [encLog, List.map_append, List.map_cons, List.map_nil] at c2
 exact c2
theorem same_rD (l : List Draw) (hl : l.length ≤ 1048576) (hn : 1048577 < n) : runFn T n (d + 1) 34 [.dat (rD l), .dat (rD l)] [] = some (.dat (.bool true), []) := by
 have c2 := e_plain_SameVector (n := n) (d := d) (l ++ [sealD]) (by simp; omega) hn
 simp only [encV, List.map_append, List.map_cons, List.map_nil] at c2
 exact c2
def HI (D : List (List Draw)) (E : List (List Ent)) (S : List State) : List Blk := [boxG (.own 1 0 D.length) (.own 2 0 D.length) (.own 3 0 E.length) (.own 4 0 E.length) (.own 5 0 S.length) (.own 6 0 S.length), lD (D.map rD), lD (D.map rD), lE (E.map rE), lE (E.map rE), lS (S.map encS), lS (S.map encS)]
def S_in (D : List (List Draw)) (E : List (List Ent)) (S : List State) (k : Nat) (i : Nat) : St := ⟨[(0, .ptr 0 0), (k, .dat (di i))], HI D E S⟩
theorem l_in0 (D : List (List Draw)) (E : List (List Ent)) (S : List State) (cf : CallF) (hn : 1048577 < n) : loopAt (XCode.run cf n 7 xf_plain_Given_Intact_b0) (headOf 7 xf_plain_Given_Intact_k0) n (S_in D E S 3 0) = some (.exit 0, ⟨[(0, .ptr 0 0)], HI D E S⟩) := by
 obtain ⟨m, rfl⟩ : ∃ m, n = m + 1 := ⟨n - 1, by omega⟩
 exact loop_exit (by simp [xf_plain_Given_Intact_b0, S_in, HI])
theorem l_in2 (D : List (List Draw)) (E : List (List Ent)) (S : List State) (cf : CallF) (hn : 1048577 < n) : loopAt (XCode.run cf n 7 xf_plain_Given_Intact_b2) (headOf 7 xf_plain_Given_Intact_k2) n (S_in D E S 5 0) = some (.exit 4, ⟨[(0, .ptr 0 0)], HI D E S⟩) := by
 obtain ⟨m, rfl⟩ : ∃ m, n = m + 1 := ⟨n - 1, by omega⟩
 exact loop_exit (by simp [xf_plain_Given_Intact_b2, S_in, HI])
theorem l_in1 (D : List (List Draw)) (E : List (List Ent)) (S : List State) (hl : S.length ≤ 1048577) (hS : ∀ s ∈ S, Small s) (hn : 1048577 < n) : loopAt (XCode.run (runFn T n (d + 3)) n 7 xf_plain_Given_Intact_b1) (headOf 7 xf_plain_Given_Intact_k1) n (S_in D E S 4 0) = some (.exit 2, ⟨[(0, .ptr 0 0)], HI D E S⟩) := by
 refine loop_for (S_in D E S 4) S.length _ (fun i hi => nextK_some ?_) ?_ (fun s h => by simp at h) n (by omega)
 ·have hi' : (i : Int) < S.length := by omega
  have hw := wrap_i i (by omega)
  have hE := e_plain_SameState (n := n) (d := d) S[i] (hS _ (List.getElem_mem hi)) hn
  simp [xf_plain_Given_Intact_b1, xf_plain_Given_Intact_k1, S_in, HI, hi, hi', hw, hE]
 ·simp [xf_plain_Given_Intact_b1, S_in, HI]
theorem l_in3 (D : List (List Draw)) (E : List (List Ent)) (S : List State) (hl : D.length ≤ 1048577) (hS : ∀ s ∈ D, s.length ≤ 1048576) (hn : 1048577 < n) : loopAt (XCode.run (runFn T n (d + 1)) n 7 xf_plain_Given_Intact_b3) (headOf 7 xf_plain_Given_Intact_k3) n (S_in D E S 6 0) = some (.exit 6, ⟨[(0, .ptr 0 0)], HI D E S⟩) := by
 refine loop_for (S_in D E S 6) D.length _ (fun i hi => nextK_some ?_) ?_ (fun s h => by simp at h) n (by omega)
 ·have hi' : (i : Int) < D.length := by omega
  have hw := wrap_i i (by omega)
  have hE := same_rD (n := n) (d := d) D[i] (hS _ (List.getElem_mem hi)) hn
  simp [xf_plain_Given_Intact_b3, xf_plain_Given_Intact_k3, S_in, HI, hi, hi', hw, hE]
 ·simp [xf_plain_Given_Intact_b3, S_in, HI]
theorem l_in4 (D : List (List Draw)) (E : List (List Ent)) (S : List State) (hl : E.length < n) (hl2 : E.length ≤ 6000000) (hS : ∀ s ∈ E, s.length ≤ 1048576) (hn : 1048577 < n) : loopAt (XCode.run (runFn T n (d + 1)) n 7 xf_plain_Given_Intact_b4) (headOf 7 xf_plain_Given_Intact_k4) n (S_in D E S 7 0) = some (.exit 8, ⟨[], HI D E S⟩) := by
 refine loop_for (S_in D E S 7) E.length _ (fun i hi => nextK_some ?_) ?_ (fun s h => by simp at h) n (by omega)
 ·have hi' : (i : Int) < E.length := by omega
  have hw := wrap_i i (by omega)
  have hE := same_rE (n := n) (d := d) E[i] (hS _ (List.getElem_mem hi)) hn
  simp [xf_plain_Given_Intact_b4, xf_plain_Given_Intact_k4, S_in, HI, hi, hi', hw, hE]
 ·simp [xf_plain_Given_Intact_b4, S_in, HI]
theorem e_Intact (D : List (List Draw)) (E : List (List Ent)) (S : List State) (hl0 : D.length ≤ 1048577) (hS0 : ∀ s ∈ D, s.length ≤ 1048576) (hl : E.length < n) (hl2 : E.length ≤ 6000000) (hS : ∀ s ∈ E, s.length ≤ 1048576) (hl3 : S.length ≤ 1048577) (hS3 : ∀ s ∈ S, Small s) (hn : 1048577 < n) :
  runFn T n (d + 4) 21 [.ptr 0 0] (HI D E S) = some (.dat (.bool true), HI D E S) := by
 have h0 := l_in0 D E S (runFn T n (d + 3)) hn
 have h1 := l_in1 (d := d) D E S hl3 hS3 hn
 have h2 := l_in2 D E S (runFn T n (d + 3)) hn
 have h3 := l_in3 (d := d + 2) D E S hl0 hS0 hn
 have h4 := l_in4 (d := d + 2) D E S hl hl2 hS hn
 simp only [S_in, HI, xf_plain_Given_Intact_k0, xf_plain_Given_Intact_k1, xf_plain_Given_Intact_k2, xf_plain_Given_Intact_k3, xf_plain_Given_Intact_k4, Int.natCast_zero] at h0 h1 h2 h3 h4
 rw [runFn_succ]
 simp [T, HI, xf_plain_Given_Intact, xf_plain_Given_Intact_k0, xf_plain_Given_Intact_k1, xf_plain_Given_Intact_k2, xf_plain_Given_Intact_k3, xf_plain_Given_Intact_k4, h0, h1, h2, h3, h4]
end Go.Ax
namespace Go.Ax
set_option linter.all false
variable {n d : Nat}
set_option maxRecDepth 10000
set_option maxHeartbeats 4000000
def gsL (s : State) : List (List Ent) := s.log :: (s.ballots.map (·.log) ++ s.answers.map (·.log))
theorem gsL_map (s : State) : gsE1 s s.answers = (gsL s).map rE := by simp [gsE1, gsL, Function.comp_def]
theorem gsL_len (s : State) : (gsL s).length = (gsE1 s s.answers).length := by rw [gsL_map]; simp
theorem e_Intact1 (s : State) (hs : Small2 s) (hn : 2097156 < n) : runFn T n (d + 4) 21 [.ptr 0 0] [boxG (.own 1 0 1) (.own 2 0 1) (.own 3 0 (gsE1 s s.answers).length) (.own 4 0 (gsE1 s s.answers).length) (.own 5 0 1) (.own 6 0 1), lD [rD s.vector], lD [rD s.vector], lE (gsE1 s s.answers), lE (gsE1 s s.answers), lS [encS s], lS [encS s]] =
  some (.dat (.bool true), [boxG (.own 1 0 1) (.own 2 0 1) (.own 3 0 (gsE1 s s.answers).length) (.own 4 0 (gsE1 s s.answers).length) (.own 5 0 1) (.own 6 0 1), lD [rD s.vector], lD [rD s.vector], lE (gsE1 s s.answers), lE (gsE1 s s.answers), lS [encS s], lS [encS s]]) := by
 have hb := hs.ballots
 have ha := hs.answers
 have hlen : (gsL s).length ≤ 2097155 := by simp [gsL]; omega
 have h := e_Intact (n := n) (d := d) [s.vector] (gsL s) [s] (by simp) (by simpa using hs.vector2) (by omega) (by omega) (by
  intro l hl
  simp only [gsL, List.mem_cons, List.mem_append, List.mem_map] at hl
  rcases hl with rfl | ⟨b, hb, rfl⟩ | ⟨b, hb, rfl⟩
  ·exact hs.log2
  ·exact hs.blogs2 b hb
  ·exact hs.alogs2 b hb) (by simp) (by simpa using hs.toSmall) (by omega)
 simp only [HI, ← gsL_map, gsL_len, List.map_cons, List.map_nil, List.length_cons, List.length_nil, Nat.zero_add] at h
 exact h
end Go.Ax
namespace Go.Ax
set_option linter.all false
variable {n d : Nat}
set_option maxRecDepth 10000
set_option maxHeartbeats 4000000
structure SmallM (m : Msg) : Prop where
 log : m.log.length ≤ 1048576
 vector : m.vector.length ≤ 1048576
def between (k : Int) : Bool := decide (3 ≤ k) && decide (k ≤ 12)
theorem e_message_Between (k : Int) : runFn T n (d + 1) 124 [.dat (di k)] [] = some (.dat (.bool (between k)), []) := by
 rw [runFn_succ]
 simp [T, xf_message_Between, between]
theorem e_ref07_Between (k : Int) : runFn T n (d + 1) 94 [.dat (di k)] [] = some (.dat (.bool (between k)), []) := by
 rw [runFn_succ]
 simp [T, xf_ref07_Between, between]
def stampM (s : State) (m : Msg) : Msg := { m with node := s.self, vector := if between m.kind then s.vector else m.vector }
theorem SmallM.stamp {s : State} {m : Msg} (hs : Small2 s) (hm : SmallM m) : SmallM (stampM s m) := ⟨hm.log, by unfold stampM; simp only; split; exact hs.vector2; exact hm.vector⟩
def outM (s : State) (to : Int) (m : Msg) : Send := ⟨to, stampM s m⟩
theorem e_core_out (s : State) (to : Int) (m : Msg) (hs : Small2 s) (hm : SmallM m) : runFn T n (d + 2) 115 [.dat (encS s), .dat (di to), .dat (encM m)] [] = some (.dat (encSd (outM s to m)), []) := by
 have h1 := e_clone_Entry (n := n) (d := d) m.log (by have := hm.log; omega)
 have h2 := e_clone_Vector (n := n) (d := d) m.vector (by have := hm.vector; omega)
 have h3 := e_clone_Vector (n := n) (d := d) s.vector (by have := hs.vector2; omega)
 have h4 := e_message_Between (n := n) (d := d) m.kind
 rw [runFn_succ]
 unfold outM stampM
 cases hb : between m.kind
 ·rw [hb] at h4
  simp [T, xf_core_out, h1, h2, h4]
 ·rw [hb] at h4
  simp [T, xf_core_out, h1, h3, h4]
theorem e_plain_CopyMsg (m : Msg) (hm : SmallM m) : runFn T n (d + 2) 106 [.dat (encM m)] [] = some (.agg [.dat (di m.kind), .dat (di m.node), .dat (di m.view), .dat (di m.entry.client), .dat (di m.entry.number), .dat (di m.entry.op.kind), .dat (di m.entry.op.slot), .dat (.str m.entry.op.value), .dat (di m.result.code), .dat (di m.result.slot), .dat (.str m.result.value),
  .dat (di m.place), .dat (di m.commit), .dat (di m.last), .dat (du m.draw.hi), .dat (du m.draw.lo), .own 0 0 m.log.length, .own 1 0 m.vector.length], [arrE m.log, arrV m.vector]) := by
 have h1 := e_plain_CopyEntries (n := n) (d := d) m.log (by have := hm.log; omega)
 have h2 := e_plain_CopyVector (n := n) (d := d) m.vector (by have := hm.vector; omega)
 rw [runFn_succ]
 simp [T, xf_plain_CopyMsg, h1, h2]
theorem e_ref09_stamped (s : State) (m : Msg) (hs : Small2 s) (hm : SmallM m) : runFn T n (d + 3) 70 [.dat (encS s), .dat (encM m)] [] = some (.dat (encM (stampM s m)), []) := by
 have h1 := e_plain_CopyMsg (n := n) (d := d) m hm
 have h3 := e_plain_CopyVector (n := n) (d := d + 1) s.vector (by have := hs.vector2; omega)
 have h4 := e_ref07_Between (n := n) (d := d + 1) m.kind
 rw [runFn_succ]
 unfold stampM
 cases hb : between m.kind
 ·rw [hb] at h4
  simp [T, xf_ref09_stamped, h1, h4]
 ·rw [hb] at h4
  simp [T, xf_ref09_stamped, h1, h3, h4]
def zeroM : Msg := ⟨0, 0, 0, ⟨0, 0, ⟨0, 0, ByteArray.empty⟩⟩, ⟨0, 0, ByteArray.empty⟩, 0, 0, 0, ⟨0, 0⟩, [], []⟩
def toOk (c : Cfg) (s : State) (to : Int) : Bool := (decide (0 ≤ to) && (decide (to < nodesOf c) && !decide (to = s.self))) || (decide (7 ≤ to) && decide (to < 23))
def oneErr (c : Cfg) (s : State) (to : Int) : Int := if stateErr c s ≠ 0 then stateErr c s else if toOk c s to then 0 else 3
def oneS (c : Cfg) (s : State) (to : Int) (m : Msg) : Send := if oneErr c s to ≠ 0 then ⟨0, zeroM⟩ else outM s to m
theorem e_core_One (c : Cfg) (s : State) (to : Int) (m : Msg) (hs : Small2 s) (hm : SmallM m) (hn : 1048577 < n) : runFn T n (d + 6) 172 [.dat (encCfg c), .dat (encS s), .dat (di to), .dat (encM m)] [] = some (.tup [.dat (encSd (oneS c s to m)), .dat (di (oneErr c s to))], []) := by
 have h1 := e_core_Check (n := n) (d := d) c s hs.toSmall hn
 have h2 := e_core_Nodes (n := n) (d := d + 3) c
 have h3 := e_core_out (n := n) (d := d + 3) s to m hs hm
 rw [runFn_succ]
 unfold oneS oneErr
 by_cases he : stateErr c s = 0
 ·rw [he] at h1 ⊢
  simp only [ne_eq, not_true_eq_false, if_false]
  have hz : ({ data := #[] } : ByteArray) = ByteArray.empty := rfl
  by_cases q1 : 0 ≤ to
  ·simp [T, xf_core_One, h1, h2, h3, q1]
   split
   ·rename_i h
    have hk : toOk c s to = false := by
     cases hq : toOk c s to
     ·rfl
     ·exfalso; simp [toOk] at hq; omega
    simp [hk, zeroM, hz]
   ·rename_i h
    have hk : toOk c s to = true := by
     cases hq : toOk c s to
     ·exfalso; simp [toOk] at hq; omega
     ·rfl
    simp [hk]
  ·simp [T, xf_core_One, h1, h2, h3, q1]
   split
   ·rename_i h
    have hk : toOk c s to = false := by
     cases hq : toOk c s to
     ·rfl
     ·exfalso; simp [toOk] at hq; omega
    simp [hk, zeroM, hz]
   ·rename_i h
    have hk : toOk c s to = true := by
     cases hq : toOk c s to
     ·exfalso; simp [toOk] at hq; omega
     ·rfl
    simp [hk]
 ·have hz : ({ data := #[] } : ByteArray) = ByteArray.empty := rfl
  simp [T, xf_core_One, h1, he, zeroM, hz]
theorem e_ref09_One (c : Cfg) (s : State) (to : Int) (m : Msg) (hs : Small2 s) (hm : SmallM m) (hn : 1048577 < n) : runFn T n (d + 8) 37 [.dat (encCfg c), .dat (encS s), .dat (di to), .dat (encM m)] [] = some (.tup [.dat (encSd (oneS c s to m)), .dat (di (oneErr c s to))], []) := by
 have h1 := e_ref09_Check (n := n) (d := d) c s hs.toSmall hn
 have h2 := e_ref09_Nodes (n := n) (d := d + 4) c
 have h3 := e_ref09_stamped (n := n) (d := d + 4) s m hs hm
 rw [runFn_succ]
 unfold oneS oneErr
 have hz : ({ data := #[] } : ByteArray) = ByteArray.empty := rfl
 by_cases he : stateErr c s = 0
 ·rw [he] at h1 ⊢
  simp only [ne_eq, not_true_eq_false, if_false]
  simp [T, xf_ref09_One, h1, h2, h3]
  split
  ·rename_i h
   have hk : toOk c s to = false := by
    cases hq : toOk c s to
    ·rfl
    ·exfalso; simp [toOk] at hq; omega
   simp [hk, zeroM, hz]
  ·rename_i h
   have hk : toOk c s to = true := by
    cases hq : toOk c s to
    ·exfalso; simp [toOk] at hq; omega
    ·rfl
   simp [hk, outM]
 ·simp [T, xf_ref09_One, h1, h2, he, zeroM, hz]
def goTo (s : State) (m : Msg) (acc : List Send) (i : Nat) : List Send := if (i : Int) = s.self then acc else acc ++ [outM s i m]
def allS (c : Cfg) (s : State) (m : Msg) : List Send := (List.range (nodesOf c).toNat).foldl (goTo s m) []
theorem goTo_len {s : State} {m : Msg} {acc : List Send} {i : Nat} (h : acc.length ≤ i) : (goTo s m acc i).length ≤ i + 1 := by
 unfold goTo
 split
 ·omega
 ·simpa using h
def S_All (s : State) (m : Msg) (N : Int) (i : Nat) (acc : List Send) : St := ⟨[(4, .ptr 0 0), (5, .ptr 1 0), (9, .own 2 0 acc.length), (18, .dat (di N)), (19, .dat (di i))], [.box ((cellsS s).map .dat), .box ((cellsM m).map .dat), .arr 71 19 false false (acc.map encSd)]⟩
theorem l_core_All (s : State) (m : Msg) (N : Nat) (hN : N ≤ 100) (hs : Small2 s) (hm : SmallM m) (hn : 1048577 < n) : loopAt (XCode.run (runFn T n (d + 2)) n 0 xf_core_All_b0) (headOf 0 xf_core_All_k0) n (S_All s m N 0 []) =
  some (.exit 0, ⟨[(9, .own 2 0 ((List.range N).foldl (goTo s m) []).length)], (S_All s m N 0 ((List.range N).foldl (goTo s m) [])).H⟩) := by
 refine loop_fold (S_All s m N) (fun i acc => acc.length ≤ i) (List.range N) (goTo s m) (fun acc => (.exit 0, ⟨[(9, .own 2 0 acc.length)], (S_All s m N 0 acc).H⟩)) [] (by simp) (fun i acc h hI => ?_) (fun acc _ => ?_) (fun a s h => by simp at h) n (by simp; omega)
 ·have hI : acc.length ≤ i := hI
  have hi : i < N := by simpa using h
  have hi' : (i : Int) < N := by omega
  have hw := wrap_i i (by omega)
  have hL : acc.length + 1 ≤ LIM := by simp only [LIM]; omega
  have ho := e_core_out (n := n) (d := d) s i m hs hm
  have hr : (List.range N)[i] = i := by simp
  rw [hr]
  refine ⟨goTo_len hI, nextK_some ?_⟩
  unfold goTo
  by_cases hq : (i : Int) = s.self
  ·simp only [if_pos hq]
   have hq' := eq_true hq
   simp [xf_core_All_b0, xf_core_All_k0, S_All, hi', hw, hq']
  ·simp only [if_neg hq]
   have hq' := eq_false hq
   simp [xf_core_All_b0, xf_core_All_k0, S_All, hi', hw, hq', ho, hL]
 ·simp [xf_core_All_b0, S_All]
theorem nodes_le {c : Cfg} : 0 ≤ nodesOf c ∧ nodesOf c ≤ 100 := by
 unfold nodesOf cfgOk
 split <;> omega
theorem e_core_All (c : Cfg) (s : State) (m : Msg) (hs : Small2 s) (hm : SmallM m) (hn : 1048577 < n) : runFn T n (d + 6) 81 [.dat (encCfg c), .dat (encS s), .dat (encM m)] [] = some (.tup [.dat (encSds (if stateErr c s = 0 then allS c s m else [])), .dat (di (stateErr c s))], []) := by
 have h1 := e_core_Check (n := n) (d := d) c s hs.toSmall hn
 have h2 := e_core_Nodes (n := n) (d := d + 3) c
 obtain ⟨n1, n2⟩ := nodes_le (c := c)
 have h3 := l_core_All (n := n) (d := d + 3) s m (nodesOf c).toNat (by omega) hs hm hn
 have hN : (((nodesOf c).toNat : Nat) : Int) = nodesOf c := by omega
 rw [hN] at h3
 simp [S_All, xf_core_All_k0] at h3
 rw [runFn_succ]
 by_cases he : stateErr c s = 0
 ·rw [he] at h1 ⊢
  simp only [ne_eq, not_true_eq_false, if_true]
  unfold allS
  simp [T, xf_core_All, xf_core_All_k0, h1, h2, h3]
 ·simp [T, xf_core_All, h1, he]
def S_AllR (c : Cfg) (s : State) (m : Msg) (i : Nat) (acc : List Send) : St := ⟨[(3, .ptr 0 0), (4, .ptr 1 0), (5, .ptr 2 0), (9, .own 3 0 acc.length), (10, .dat (di i))], [.box [.dat (di c.f), .dat (di c.room), .dat (di c.patience), .dat (.bool c.unguarded)], .box ((cellsS s).map .dat), .box ((cellsM m).map .dat), .arr 71 19 false false (acc.map encSd)]⟩
theorem l_ref09_All (c : Cfg) (s : State) (m : Msg) (N : Nat) (hNo : nodesOf c = N) (hN : N ≤ 100) (hs : Small2 s) (hm : SmallM m) (hn : 1048577 < n) : loopAt (XCode.run (runFn T n (d + 3)) n 0 xf_ref09_All_b0) (headOf 0 xf_ref09_All_k0) n (S_AllR c s m 0 []) =
  some (.exit 0, ⟨[(9, .own 3 0 ((List.range N).foldl (goTo s m) []).length)], (S_AllR c s m 0 ((List.range N).foldl (goTo s m) [])).H⟩) := by
 have h2 := e_ref09_Nodes (n := n) (d := d) c
 rw [hNo] at h2
 refine loop_fold (S_AllR c s m) (fun i acc => acc.length ≤ i) (List.range N) (goTo s m) (fun acc => (.exit 0, ⟨[(9, .own 3 0 acc.length)], (S_AllR c s m 0 acc).H⟩)) [] (by simp) (fun i acc h hI => ?_) (fun acc _ => ?_) (fun a s h => by simp at h) n (by simp; omega)
 ·have hI : acc.length ≤ i := hI
  have hi : i < N := by simpa using h
  have hi' : (i : Int) < N := by omega
  have hw := wrap_i i (by omega)
  have hL : acc.length + 1 ≤ LIM := by simp only [LIM]; omega
  have ho := e_ref09_stamped (n := n) (d := d) s m hs hm
  have hr : (List.range N)[i] = i := by simp
  rw [hr]
  refine ⟨goTo_len hI, nextK_some ?_⟩
  unfold goTo
  by_cases hq : (i : Int) = s.self
  ·simp only [if_pos hq]
   have hq' := eq_true hq
   simp [xf_ref09_All_b0, xf_ref09_All_k0, S_AllR, h2, hi', hw, hq']
  ·simp only [if_neg hq]
   have hq' := eq_false hq
   simp [xf_ref09_All_b0, xf_ref09_All_k0, S_AllR, h2, hi', hw, hq', ho, hL, outM]
 ·simp [xf_ref09_All_b0, S_AllR, h2]
theorem e_plain_SameMsg (m : Msg) (hm : SmallM m) (hn : 1048577 < n) : runFn T n (d + 2) 84 [.dat (encM m), .dat (encM m)] [] = some (.dat (.bool true), []) := by
 have h1 := e_plain_SameEntries (n := n) (d := d) m.log (by have := hm.log; omega) hn
 have h2 := e_plain_SameVector (n := n) (d := d) m.vector (by have := hm.vector; omega) hn
 rw [runFn_succ]
 simp [T, xf_plain_SameMsg, h1, h2]
def S_SameSends (l : List Send) (i : Nat) : St := ⟨[(0, .dat (encSds l)), (1, .dat (encSds l)), (5, .dat (di i))], []⟩
theorem e_plain_SameSends (l : List Send) (hl : l.length ≤ 1048577) (hb : ∀ x ∈ l, SmallM x.msg) (hn : 1048577 < n) : runFn T n (d + 3) 47 [.dat (encSds l), .dat (encSds l)] [] = some (.dat (.bool true), []) := by
 have h0 : loopAt (XCode.run (runFn T n (d + 2)) n 0 xf_plain_SameSends_b0) (headOf 0 xf_plain_SameSends_k0) n (S_SameSends l 0) = some (.exit 0, ⟨[], []⟩) := by
  refine loop_for (S_SameSends l) l.length _ (fun i hi => nextK_some ?_) ?_ (fun s h => by simp at h) n (by omega)
  ·have hi' : (i : Int) < l.length := by omega
   have hw := wrap_i i (by omega)
   have hE := e_plain_SameMsg (n := n) (d := d) l[i].msg (hb _ (List.getElem_mem hi)) hn
   simp [xf_plain_SameSends_b0, xf_plain_SameSends_k0, S_SameSends, hi, hi', hw, hE]
  ·simp [xf_plain_SameSends_b0, S_SameSends]
 simp [S_SameSends, xf_plain_SameSends_k0] at h0
 rw [runFn_succ]
 simp [T, xf_plain_SameSends, xf_plain_SameSends_k0, h0]
theorem allS_small {c : Cfg} {s : State} {m : Msg} (hs : Small2 s) (hm : SmallM m) : (allS c s m).length ≤ 1048577 ∧ ∀ x ∈ allS c s m, SmallM x.msg := by
 have key : ∀ (l : List Nat) (acc : List Send), (∀ x ∈ acc, SmallM x.msg) → (l.foldl (goTo s m) acc).length ≤ acc.length + l.length ∧ ∀ x ∈ l.foldl (goTo s m) acc, SmallM x.msg := by
  intro l
  induction l with
  | nil => intro acc h; exact ⟨by simp, h⟩
  | cons i r ih =>
   intro acc h
   obtain ⟨h1, h2⟩ := ih (goTo s m acc i) (by
    unfold goTo
    split
    ·exact h
    ·intro x hx
     rcases List.mem_append.1 hx with hx | hx
     ·exact h x hx
     ·simp at hx; subst hx; exact hm.stamp hs)
   refine ⟨?_, h2⟩
   have := goTo_len (s := s) (m := m) (acc := acc) (i := acc.length) (Nat.le_refl _)
   have h3 : (goTo s m acc i).length ≤ acc.length + 1 := by unfold goTo; split <;> simp
   simp only [List.foldl_cons, List.length_cons]
   omega
 obtain ⟨n1, n2⟩ := nodes_le (c := c)
 obtain ⟨h1, h2⟩ := key (List.range (nodesOf c).toNat) [] (by simp)
 refine ⟨?_, h2⟩
 unfold allS
 simp at h1
 omega
end Go.Ax
namespace Go.Ax
set_option linter.all false
variable {n d : Nat}
set_option maxRecDepth 10000
set_option maxHeartbeats 4000000
theorem g_Entries4 (l : List Ent) (hl : l.length ≤ 1048576) (D D' E F S S' : List Dat) (hD : D.length = D'.length) (h0 : 0 < D.length) (hE : E.length ≤ 6000000) (hF : E.length = F.length) (he : 0 < E.length) (hS : S.length = S'.length) (hs : 0 < S.length) :
  runFn T n (d + 2) 50 [.ptr 0 0, .dat (encLog l)]
   [boxG (.own 1 0 D.length) (.own 2 0 D.length) (.own 3 0 E.length) (.own 4 0 E.length) (.own 5 0 S.length) (.own 6 0 S.length), lD D, lD D', lE E, lE F, lS S, lS S'] =
  some (.own 7 0 l.length, [boxG (.own 1 0 D.length) (.own 2 0 D.length) (.own 8 0 (E.length + 1)) (.own 9 0 (E.length + 1)) (.own 5 0 S.length) (.own 6 0 S.length), lD D, lD D', .dead, .dead, lS S, lS S', frzE l, lE (E ++ [rE l]), lE (F ++ [rE l])]) := by
 have c := e_plain_CopyEntries (n := n) (d := d) l (by omega)
 have c2 := copy_rawE (n := n) (d := d) l hl
 have h2 : l.length + 1 ≤ LIM := by simp only [LIM]; omega
 have h3 : (l.length : Int) ≤ (l.length : Int) + 1 := by omega
 have h5 : F.length + 1 ≤ LIM := by simp only [LIM]; omega
 rw [runFn_succ]
 simp [T, xf_plain_Given_Entries, c, h2, c2, take_snoc, h3, hD, hF, h5, hS]
theorem g_Vector4 (l : List Draw) (hl : l.length ≤ 1048576) (D D' E F S S' : List Dat) (hD : D.length = D'.length) (h0 : 0 < D.length) (hDl : D.length ≤ 6000000) (hF : E.length = F.length) (he : 0 < E.length) (hS : S.length = S'.length) (hs : 0 < S.length) :
  runFn T n (d + 2) 51 [.ptr 0 0, .dat (encV l)]
   [boxG (.own 1 0 D.length) (.own 2 0 D.length) (.own 3 0 E.length) (.own 4 0 E.length) (.own 5 0 S.length) (.own 6 0 S.length), lD D, lD D', lE E, lE F, lS S, lS S'] =
  some (.own 7 0 l.length, [boxG (.own 8 0 (D.length + 1)) (.own 9 0 (D.length + 1)) (.own 3 0 E.length) (.own 4 0 E.length) (.own 5 0 S.length) (.own 6 0 S.length), .dead, .dead, lE E, lE F, lS S, lS S', frzD l, lD (D ++ [rD l]), lD (D' ++ [rD l])]) := by
 have c := e_plain_CopyVector (n := n) (d := d) l (by omega)
 have c2 := copy_rawD (n := n) (d := d) l hl
 have h2 : l.length + 1 ≤ LIM := by simp only [LIM]; omega
 have h3 : (l.length : Int) ≤ (l.length : Int) + 1 := by omega
 have h5 : D'.length + 1 ≤ LIM := by simp only [LIM]; omega
 rw [runFn_succ]
 simp [T, xf_plain_Given_Vector, c, h2, c2, take_snoc, h3, hD, hF, h5, hS]
theorem e_Given_Msg (m : Msg) (hm : SmallM m) (D E S : List Dat) (h0 : 0 < D.length) (hDl : D.length ≤ 6000000) (hE : E.length ≤ 6000000) (he : 0 < E.length) (hs : 0 < S.length) :
  runFn T n (d + 3) 19 [.ptr 0 0, .dat (encM m)]
   [boxG (.own 1 0 D.length) (.own 2 0 D.length) (.own 3 0 E.length) (.own 4 0 E.length) (.own 5 0 S.length) (.own 6 0 S.length), lD D, lD D, lE E, lE E, lS S, lS S] =
  some (.agg [.dat (di m.kind), .dat (di m.node), .dat (di m.view), .dat (di m.entry.client), .dat (di m.entry.number), .dat (di m.entry.op.kind), .dat (di m.entry.op.slot), .dat (.str m.entry.op.value), .dat (di m.result.code), .dat (di m.result.slot), .dat (.str m.result.value),
   .dat (di m.place), .dat (di m.commit), .dat (di m.last), .dat (du m.draw.hi), .dat (du m.draw.lo), .own 7 0 m.log.length, .own 8 0 m.vector.length],
   [boxG (.own 9 0 (D.length + 1)) (.own 10 0 (D.length + 1)) (.own 11 0 (E.length + 1)) (.own 12 0 (E.length + 1)) (.own 5 0 S.length) (.own 6 0 S.length), .dead, .dead, .dead, .dead, lS S, lS S, frzE m.log, frzD m.vector,
    lD (D ++ [rD m.vector]), lD (D ++ [rD m.vector]), lE (E ++ [rE m.log]), lE (E ++ [rE m.log])]) := by
 have g1 := g_Entries4 (n := n) (d := d) m.log hm.log D D E E S S rfl h0 hE rfl he rfl hs
 have g2 := g_Vector4 (n := n) (d := d) m.vector hm.vector D D (E ++ [rE m.log]) (E ++ [rE m.log]) S S rfl h0 hDl rfl (by simp) rfl hs
 simp only [List.length_append, List.length_cons, List.length_nil, Nat.zero_add] at g2
 rw [runFn_succ]
 simp [T, xf_plain_Given_Msg, g1, g2, take_ahead]
theorem e_Intact2 (s : State) (m : Msg) (hs : Small2 s) (hm : SmallM m) (hn : 2097157 < n) : runFn T n (d + 4) 21 [.ptr 0 0] [boxG (.own 1 0 2) (.own 2 0 2) (.own 3 0 ((gsE1 s s.answers).length + 1)) (.own 4 0 ((gsE1 s s.answers).length + 1)) (.own 5 0 1) (.own 6 0 1), lD [rD s.vector, rD m.vector], lD [rD s.vector, rD m.vector], lE (gsE1 s s.answers ++ [rE m.log]), lE (gsE1 s s.answers ++ [rE m.log]), lS [encS s], lS [encS s]] =
  some (.dat (.bool true), [boxG (.own 1 0 2) (.own 2 0 2) (.own 3 0 ((gsE1 s s.answers).length + 1)) (.own 4 0 ((gsE1 s s.answers).length + 1)) (.own 5 0 1) (.own 6 0 1), lD [rD s.vector, rD m.vector], lD [rD s.vector, rD m.vector], lE (gsE1 s s.answers ++ [rE m.log]), lE (gsE1 s s.answers ++ [rE m.log]), lS [encS s], lS [encS s]]) := by
 have hb := hs.ballots
 have ha := hs.answers
 have hlen : (gsL s ++ [m.log]).length ≤ 2097156 := by simp [gsL]; omega
 have h := e_Intact (n := n) (d := d) [s.vector, m.vector] (gsL s ++ [m.log]) [s] (by simp) (by
   intro x hx
   simp only [List.mem_cons, List.not_mem_nil, or_false] at hx
   rcases hx with rfl | rfl
   ·exact hs.vector2
   ·exact hm.vector) (by omega) (by omega) (by
  intro l hl
  simp only [gsL, List.mem_cons, List.mem_append, List.mem_map, List.not_mem_nil, or_false] at hl
  rcases hl with (rfl | ⟨b, hb, rfl⟩ | ⟨b, hb, rfl⟩) | rfl
  ·exact hs.log2
  ·exact hs.blogs2 b hb
  ·exact hs.alogs2 b hb
  ·exact hm.log) (by simp) (by simpa using hs.toSmall) (by omega)
 simp only [HI, List.map_append, ← gsL_map, List.length_append, gsL_len, List.map_cons, List.map_nil, List.length_cons, List.length_nil, Nat.zero_add] at h
 exact h
end Go.Ax
namespace Go.Ax
set_option linter.all false
variable {n d : Nat}
set_option maxRecDepth 10000
set_option maxHeartbeats 4000000
end Go.Ax
