/-
  core.Admit.
-/
import Derived.Test.YtfoglingdnhjpaaGreatDoorME
namespace Go.Ax
set_option linter.all false
variable {n d : Nat}
set_option maxRecDepth 10000
set_option maxHeartbeats 4000000
theorem mxv_len {a b : List Draw} (h : b.length = a.length) : (mxv a b).length = a.length := by simp [mxv, h]
theorem e_core_Admit (c : Cfg) (s : State) (m : Msg) (hs : Small s) (hm : m.log.length ≤ 1048577) (hN : ∀ x ∈ s.vector, Nn x) (hn : 1999999 < n) :
  runFn T n (d + 6) 88 [.dat (encCfg c), .dat (encS s), .dat (encM m)] [] = some (.tup [.dat (encS (admS c s m)), .dat (.bool (admB c s m)), .dat (di (admErr c s m))], []) := by
 have h1 := e_core_Check (n := n) (d := d) c s hs (by omega)
 have h2 := e_message_Check (n := n) (d := d + 2) c m hm (by omega)
 have h3 := e_core_twin (n := n) (d := d + 3) s hs (by omega)
 have h4 := e_message_Between (n := n) (d := d + 4) m.kind
 rw [runFn_succ]
 unfold admS admB
 by_cases he : stateErr c s = 0
 ·have hE : admErr c s m = msgErr c m := by unfold admErr; rw [if_neg (by simp [he])]
  obtain ⟨hnod, hlen, hs1, hs2, hc⟩ := nodes_ok he
  have hf : 1 ≤ c.f ∧ c.f ≤ 3 := by unfold cfgOk at hc; omega
  rw [he] at h1
  rw [hE]
  by_cases hme : msgErr c m = 0
  ·rw [hme] at h2 ⊢
   cases hb : between m.kind
   ·rw [hb] at h4
    simp [T, xf_core_Admit, h1, h2, h3, h4]
   ·rw [hb] at h4
    obtain ⟨hvl, hm1, hm2⟩ := msg_ok hme hb
    by_cases q1 : m.node = s.self
    ·have q1' := eq_true q1
     simp [T, xf_core_Admit, h1, h2, h3, h4, q1']
    ·have q1' := eq_false q1
     by_cases q2 : c.unguarded = true
     ·have q2' := eq_true q2
      simp [T, xf_core_Admit, h1, h2, h3, h4, q1', q2']
     ·have q2' := eq_false q2
      have hvs : m.vector.length = s.vector.length := by omega
      have h17 : 1 ≤ m.vector.length ∧ m.vector.length ≤ 7 := by simp only [NN] at hvl; omega
      have h17s : 1 ≤ s.vector.length ∧ s.vector.length ≤ 7 := by omega
      have h5 := e_Over (n := n) (d := d + 2) s.vector m.vector m.node h17 hvs.symm (by omega)
      rw [show decide (0 < cmp (s.vector.getD m.node.toNat ⟨0, 0⟩) (m.vector.getD m.node.toNat ⟨0, 0⟩)) = overB s m from rfl] at h5
      cases q3 : overB s m
      ·rw [q3] at h5
       have k1 : s.self.toNat < m.vector.length := by omega
       have k2 : s.self.toNat < s.vector.length := by omega
       have k3 : s.self < m.vector.length := by omega
       have k4 : s.self < s.vector.length := by omega
       have h6 := p43 (n := n) (d := d + 4) m.vector[s.self.toNat] s.vector[s.self.toNat]
       have g1 : m.vector.getD s.self.toNat ⟨0, 0⟩ = m.vector[s.self.toNat] := by simp [List.getD, k1]
       have g2 : s.vector.getD s.self.toNat ⟨0, 0⟩ = s.vector[s.self.toNat] := by simp [List.getD, k2]
       by_cases q4 : 0 < cmp m.vector[s.self.toNat] s.vector[s.self.toNat]
       ·have hA : aheadB s m = true := by unfold aheadB; rw [g1, g2]; exact decide_eq_true q4
        simp [T, xf_core_Admit, h1, h2, h3, h4, h5, h6, q1', q2', k1, k2, k3, k4, hs1, q4, hA]
       ·have hA : aheadB s m = false := by unfold aheadB; rw [g1, g2]; exact decide_eq_false q4
        have h7 := p20 (n := n) (d := d + 3) [s.vector, m.vector] (by simp) (by omega)
        obtain ⟨r1, r2⟩ := mergeR_two s.vector m.vector h17s hvs hN
        rw [r1, r2] at h7
        simp only [encL, List.map_cons, List.map_nil] at h7
        have hml := mxv_len hvs
        have h8 := e_PruneAcks (n := n) (d := d + 2) (mxv s.vector m.vector) s.acks hs.acks (by rw [hml]; exact hnod.acks) (by omega)
        have h9 := e_PruneMarks (n := n) (d := d + 2) (mxv s.vector m.vector) s.marks hs.marks (by rw [hml]; exact hnod.marks) (by omega)
        have h10 := e_PruneBallots (n := n) (d := d + 2) (mxv s.vector m.vector) s.ballots (by have := hs.ballots; omega) hs.blogs (by rw [hml]; exact hnod.ballots) (by omega)
        have h11 := e_PruneAnswers (n := n) (d := d + 2) (mxv s.vector m.vector) s.answers (by have := hs.answers; omega) hs.alogs (by rw [hml]; exact hnod.answers) (by omega)
        simp [T, xf_core_Admit, h1, h2, h3, h4, h5, h6, h7, h8, h9, h10, h11, q1', q2', k1, k2, k3, k4, hs1, q4, hA, struck]
      ·rw [q3] at h5
       simp [T, xf_core_Admit, h1, h2, h3, h4, h5, q1', q2']
  ·simp [T, xf_core_Admit, h1, h2, hme, zeroS]
 ·have hE : admErr c s m = stateErr c s := by unfold admErr; rw [if_pos he]
  rw [hE]
  simp [T, xf_core_Admit, h1, he, zeroS]
end Go.Ax
namespace Go.Ax
set_option linter.all false
variable {n d : Nat}
set_option maxRecDepth 10000
set_option maxHeartbeats 8000000
def H_pr0 (s : State) (A0 : List Ack) : List Blk := (if A0 = [] then [boxS s, boxZ, .box [.dat (di s.self), .dat (di s.status), .dat (di s.view), .dat (di s.last), .own 3 0 s.log.length, .dat (di s.commit), .own 4 0 s.vector.length, .dat (di s.idle), .nil 123 4 true, .own 5 0 s.marks.length, .own 6 0 s.ballots.length, .own 7 0 s.answers.length], arrE s.log, arrV s.vector, arrM s.marks, arrB s.ballots, arrA s.answers] else [boxS s, boxZ, .box [.dat (di s.self), .dat (di s.status), .dat (di s.view), .dat (di s.last), .own 3 0 s.log.length, .dat (di s.commit), .own 4 0 s.vector.length, .dat (di s.idle), .own 5 0 A0.length, .own 6 0 s.marks.length, .own 7 0 s.ballots.length, .own 8 0 s.answers.length], arrE s.log, arrV s.vector, arrK A0, arrM s.marks, arrB s.ballots, arrA s.answers])
def S_pr0 (s : State)  (i : Nat) (A0 : List Ack) : St := ⟨[(1, .ptr 0 0), (2, .ptr 1 0), (3, .ptr 2 0), (4, .dat (di i))], H_pr0 s  A0⟩
theorem l_pr0 (s : State)  (hs : Small s) (hnod : Nodes s) (hn : 1048577 < n) : loopAt (XCode.run (runFn T n (d + 2)) n 0 xf_ref09_Pruned_b0) (headOf 0 xf_ref09_Pruned_k0) n (S_pr0 s  0 []) = some ((fun a => (.exit 0, ⟨[(1, .ptr 0 0), (2, .ptr 1 0), (3, .ptr 2 0)], H_pr0 s  a⟩)) (s.acks.foldl (goP_ack s.vector) [])) := by
 have hl := hs.acks
 refine loop_fold (S_pr0 s ) (fun i a => a.length ≤ i) s.acks (goP_ack s.vector) (fun a => (.exit 0, ⟨[(1, .ptr 0 0), (2, .ptr 1 0), (3, .ptr 2 0)], H_pr0 s  a⟩)) [] (by simp) (fun i a hi hI => ?_) (fun a _ => ?_) (fun a s h => by simp at h) n (by omega)
 ·have hI : a.length ≤ i := hI
  have hi' : (i : Int) < s.acks.length := by omega
  have hw := wrap_i i (by omega)
  have hL : a.length + 1 ≤ LIM := by simp only [LIM]; omega
  obtain ⟨v1, v2⟩ := hnod.acks s.acks[i] (List.getElem_mem hi)
  have v5 : s.acks[i].node.toNat < s.vector.length := by omega
  have e4 := e_below (n := n) (d := d) s.acks[i].draw s.vector[s.acks[i].node.toNat]
  have g : s.vector.getD s.acks[i].node.toNat ⟨0, 0⟩ = s.vector[s.acks[i].node.toNat] := by simp [List.getD, v5]
  refine ⟨by unfold goP_ack; split <;> (try simp) <;> omega, nextK_some ?_⟩
  unfold goP_ack keepAck lives
  rw [g]
  have hlim : 1 ≤ LIM := by simp only [LIM]; omega
  by_cases hq : 0 ≤ cmp s.acks[i].draw s.vector[s.acks[i].node.toNat]
  ·have hq' : ¬ cmp s.acks[i].draw s.vector[s.acks[i].node.toNat] < 0 := by omega
   rcases a with _ | ⟨x, r⟩ <;> simp [xf_ref09_Pruned_b0, xf_ref09_Pruned_k0, S_pr0, H_pr0, hi, hi', hw, hlim, v1, v2, v5, e4, hq, hq'] <;> simp at hL <;> simp [hL, hw]
  ·have hq' : cmp s.acks[i].draw s.vector[s.acks[i].node.toNat] < 0 := by omega
   rcases a with _ | ⟨x, r⟩ <;> simp [xf_ref09_Pruned_b0, xf_ref09_Pruned_k0, S_pr0, H_pr0, hi, hi', hw, hlim, v1, v2, v5, e4, hq, hq'] <;> simp at hL <;> simp [hL, hw]
 ·rcases a with _ | ⟨x, r⟩ <;> simp [xf_ref09_Pruned_b0, S_pr0, H_pr0]
def H_pr1 (s : State) (A0 : List Ack) (A1 : List Mark) : List Blk := (if A0 = [] then (if A1 = [] then [boxS s, boxZ, .box [.dat (di s.self), .dat (di s.status), .dat (di s.view), .dat (di s.last), .own 3 0 s.log.length, .dat (di s.commit), .own 4 0 s.vector.length, .dat (di s.idle), .nil 123 4 true, .nil 125 3 true, .own 5 0 s.ballots.length, .own 6 0 s.answers.length], arrE s.log, arrV s.vector, arrB s.ballots, arrA s.answers] else [boxS s, boxZ, .box [.dat (di s.self), .dat (di s.status), .dat (di s.view), .dat (di s.last), .own 3 0 s.log.length, .dat (di s.commit), .own 4 0 s.vector.length, .dat (di s.idle), .nil 123 4 true, .own 5 0 A1.length, .own 6 0 s.ballots.length, .own 7 0 s.answers.length], arrE s.log, arrV s.vector, arrM A1, arrB s.ballots, arrA s.answers]) else (if A1 = [] then [boxS s, boxZ, .box [.dat (di s.self), .dat (di s.status), .dat (di s.view), .dat (di s.last), .own 3 0 s.log.length, .dat (di s.commit), .own 4 0 s.vector.length, .dat (di s.idle), .own 5 0 A0.length, .nil 125 3 true, .own 6 0 s.ballots.length, .own 7 0 s.answers.length], arrE s.log, arrV s.vector, arrK A0, arrB s.ballots, arrA s.answers] else [boxS s, boxZ, .box [.dat (di s.self), .dat (di s.status), .dat (di s.view), .dat (di s.last), .own 3 0 s.log.length, .dat (di s.commit), .own 4 0 s.vector.length, .dat (di s.idle), .own 5 0 A0.length, .own 6 0 A1.length, .own 7 0 s.ballots.length, .own 8 0 s.answers.length], arrE s.log, arrV s.vector, arrK A0, arrM A1, arrB s.ballots, arrA s.answers]))
def S_pr1 (s : State) (A0 : List Ack) (i : Nat) (A1 : List Mark) : St := ⟨[(1, .ptr 0 0), (2, .ptr 1 0), (3, .ptr 2 0), (5, .dat (di i))], H_pr1 s A0 A1⟩
theorem l_pr1 (s : State) (A0 : List Ack) (hs : Small s) (hnod : Nodes s) (hn : 1048577 < n) : loopAt (XCode.run (runFn T n (d + 2)) n 0 xf_ref09_Pruned_b1) (headOf 0 xf_ref09_Pruned_k1) n (S_pr1 s A0 0 []) = some ((fun a => (.exit 2, ⟨[(1, .ptr 0 0), (2, .ptr 1 0), (3, .ptr 2 0)], H_pr1 s A0 a⟩)) (s.marks.foldl (goP_mark s.vector) [])) := by
 have hl := hs.marks
 refine loop_fold (S_pr1 s A0) (fun i a => a.length ≤ i) s.marks (goP_mark s.vector) (fun a => (.exit 2, ⟨[(1, .ptr 0 0), (2, .ptr 1 0), (3, .ptr 2 0)], H_pr1 s A0 a⟩)) [] (by simp) (fun i a hi hI => ?_) (fun a _ => ?_) (fun a s h => by simp at h) n (by omega)
 ·have hI : a.length ≤ i := hI
  have hi' : (i : Int) < s.marks.length := by omega
  have hw := wrap_i i (by omega)
  have hL : a.length + 1 ≤ LIM := by simp only [LIM]; omega
  obtain ⟨v1, v2⟩ := hnod.marks s.marks[i] (List.getElem_mem hi)
  have v5 : s.marks[i].node.toNat < s.vector.length := by omega
  have e4 := e_below (n := n) (d := d) s.marks[i].draw s.vector[s.marks[i].node.toNat]
  have g : s.vector.getD s.marks[i].node.toNat ⟨0, 0⟩ = s.vector[s.marks[i].node.toNat] := by simp [List.getD, v5]
  refine ⟨by unfold goP_mark; split <;> (try simp) <;> omega, nextK_some ?_⟩
  unfold goP_mark keepMark lives
  rw [g]
  have hlim : 1 ≤ LIM := by simp only [LIM]; omega
  by_cases hq : 0 ≤ cmp s.marks[i].draw s.vector[s.marks[i].node.toNat]
  ·have hq' : ¬ cmp s.marks[i].draw s.vector[s.marks[i].node.toNat] < 0 := by omega
   rcases a with _ | ⟨x, r⟩ <;> rcases A0 with _ | ⟨x0, r0⟩ <;> simp [xf_ref09_Pruned_b1, xf_ref09_Pruned_k1, S_pr1, H_pr1, hi, hi', hw, hlim, v1, v2, v5, e4, hq, hq'] <;> simp at hL <;> simp [hL, hw]
  ·have hq' : cmp s.marks[i].draw s.vector[s.marks[i].node.toNat] < 0 := by omega
   rcases a with _ | ⟨x, r⟩ <;> rcases A0 with _ | ⟨x0, r0⟩ <;> simp [xf_ref09_Pruned_b1, xf_ref09_Pruned_k1, S_pr1, H_pr1, hi, hi', hw, hlim, v1, v2, v5, e4, hq, hq'] <;> simp at hL <;> simp [hL, hw]
 ·rcases a with _ | ⟨x, r⟩ <;> rcases A0 with _ | ⟨x0, r0⟩ <;> simp [xf_ref09_Pruned_b1, S_pr1, H_pr1]
def H_pr2 (s : State) (A0 : List Ack) (A1 : List Mark) (A2 : List Ballot) : List Blk := (if A0 = [] then (if A1 = [] then (if A2 = [] then [boxS s, boxZ, .box [.dat (di s.self), .dat (di s.status), .dat (di s.view), .dat (di s.last), .own 3 0 s.log.length, .dat (di s.commit), .own 4 0 s.vector.length, .dat (di s.idle), .nil 123 4 true, .nil 125 3 true, .nil 98 6 false, .own 5 0 s.answers.length], arrE s.log, arrV s.vector, arrA s.answers] else [boxS s, boxZ, .box [.dat (di s.self), .dat (di s.status), .dat (di s.view), .dat (di s.last), .own 3 0 s.log.length, .dat (di s.commit), .own 4 0 s.vector.length, .dat (di s.idle), .nil 123 4 true, .nil 125 3 true, .own 5 0 A2.length, .own 6 0 s.answers.length], arrE s.log, arrV s.vector, arrB A2, arrA s.answers]) else (if A2 = [] then [boxS s, boxZ, .box [.dat (di s.self), .dat (di s.status), .dat (di s.view), .dat (di s.last), .own 3 0 s.log.length, .dat (di s.commit), .own 4 0 s.vector.length, .dat (di s.idle), .nil 123 4 true, .own 5 0 A1.length, .nil 98 6 false, .own 6 0 s.answers.length], arrE s.log, arrV s.vector, arrM A1, arrA s.answers] else [boxS s, boxZ, .box [.dat (di s.self), .dat (di s.status), .dat (di s.view), .dat (di s.last), .own 3 0 s.log.length, .dat (di s.commit), .own 4 0 s.vector.length, .dat (di s.idle), .nil 123 4 true, .own 5 0 A1.length, .own 6 0 A2.length, .own 7 0 s.answers.length], arrE s.log, arrV s.vector, arrM A1, arrB A2, arrA s.answers])) else (if A1 = [] then (if A2 = [] then [boxS s, boxZ, .box [.dat (di s.self), .dat (di s.status), .dat (di s.view), .dat (di s.last), .own 3 0 s.log.length, .dat (di s.commit), .own 4 0 s.vector.length, .dat (di s.idle), .own 5 0 A0.length, .nil 125 3 true, .nil 98 6 false, .own 6 0 s.answers.length], arrE s.log, arrV s.vector, arrK A0, arrA s.answers] else [boxS s, boxZ, .box [.dat (di s.self), .dat (di s.status), .dat (di s.view), .dat (di s.last), .own 3 0 s.log.length, .dat (di s.commit), .own 4 0 s.vector.length, .dat (di s.idle), .own 5 0 A0.length, .nil 125 3 true, .own 6 0 A2.length, .own 7 0 s.answers.length], arrE s.log, arrV s.vector, arrK A0, arrB A2, arrA s.answers]) else (if A2 = [] then [boxS s, boxZ, .box [.dat (di s.self), .dat (di s.status), .dat (di s.view), .dat (di s.last), .own 3 0 s.log.length, .dat (di s.commit), .own 4 0 s.vector.length, .dat (di s.idle), .own 5 0 A0.length, .own 6 0 A1.length, .nil 98 6 false, .own 7 0 s.answers.length], arrE s.log, arrV s.vector, arrK A0, arrM A1, arrA s.answers] else [boxS s, boxZ, .box [.dat (di s.self), .dat (di s.status), .dat (di s.view), .dat (di s.last), .own 3 0 s.log.length, .dat (di s.commit), .own 4 0 s.vector.length, .dat (di s.idle), .own 5 0 A0.length, .own 6 0 A1.length, .own 7 0 A2.length, .own 8 0 s.answers.length], arrE s.log, arrV s.vector, arrK A0, arrM A1, arrB A2, arrA s.answers])))
def S_pr2 (s : State) (A0 : List Ack) (A1 : List Mark) (i : Nat) (A2 : List Ballot) : St := ⟨[(1, .ptr 0 0), (2, .ptr 1 0), (3, .ptr 2 0), (6, .dat (di i))], H_pr2 s A0 A1 A2⟩
theorem l_pr2 (s : State) (A0 : List Ack) (A1 : List Mark) (hs : Small s) (hnod : Nodes s) (hn : 1048577 < n) : loopAt (XCode.run (runFn T n (d + 2)) n 0 xf_ref09_Pruned_b2) (headOf 0 xf_ref09_Pruned_k2) n (S_pr2 s A0 A1 0 []) = some ((fun a => (.exit 4, ⟨[(1, .ptr 0 0), (2, .ptr 1 0), (3, .ptr 2 0)], H_pr2 s A0 A1 a⟩)) (s.ballots.foldl (goP_ballot s.vector) [])) := by
 have hl := hs.ballots
 refine loop_fold (S_pr2 s A0 A1) (fun i a => a.length ≤ i) s.ballots (goP_ballot s.vector) (fun a => (.exit 4, ⟨[(1, .ptr 0 0), (2, .ptr 1 0), (3, .ptr 2 0)], H_pr2 s A0 A1 a⟩)) [] (by simp) (fun i a hi hI => ?_) (fun a _ => ?_) (fun a s h => by simp at h) n (by omega)
 ·have hI : a.length ≤ i := hI
  have hi' : (i : Int) < s.ballots.length := by omega
  have hw := wrap_i i (by omega)
  have hL : a.length + 1 ≤ LIM := by simp only [LIM]; omega
  obtain ⟨v1, v2⟩ := hnod.ballots s.ballots[i] (List.getElem_mem hi)
  have v5 : s.ballots[i].node.toNat < s.vector.length := by omega
  have e4 := e_below (n := n) (d := d) s.ballots[i].draw s.vector[s.ballots[i].node.toNat]
  have g : s.vector.getD s.ballots[i].node.toNat ⟨0, 0⟩ = s.vector[s.ballots[i].node.toNat] := by simp [List.getD, v5]
  refine ⟨by unfold goP_ballot; split <;> (try simp) <;> omega, nextK_some ?_⟩
  unfold goP_ballot keepBallot lives
  rw [g]
  have hlim : 1 ≤ LIM := by simp only [LIM]; omega
  by_cases hq : 0 ≤ cmp s.ballots[i].draw s.vector[s.ballots[i].node.toNat]
  ·have hq' : ¬ cmp s.ballots[i].draw s.vector[s.ballots[i].node.toNat] < 0 := by omega
   rcases a with _ | ⟨x, r⟩ <;> rcases A0 with _ | ⟨x0, r0⟩ <;> rcases A1 with _ | ⟨x1, r1⟩ <;> simp [xf_ref09_Pruned_b2, xf_ref09_Pruned_k2, S_pr2, H_pr2, hi, hi', hw, hlim, v1, v2, v5, e4, hq, hq'] <;> simp at hL <;> simp [hL, hw]
  ·have hq' : cmp s.ballots[i].draw s.vector[s.ballots[i].node.toNat] < 0 := by omega
   rcases a with _ | ⟨x, r⟩ <;> rcases A0 with _ | ⟨x0, r0⟩ <;> rcases A1 with _ | ⟨x1, r1⟩ <;> simp [xf_ref09_Pruned_b2, xf_ref09_Pruned_k2, S_pr2, H_pr2, hi, hi', hw, hlim, v1, v2, v5, e4, hq, hq'] <;> simp at hL <;> simp [hL, hw]
 ·rcases a with _ | ⟨x, r⟩ <;> rcases A0 with _ | ⟨x0, r0⟩ <;> rcases A1 with _ | ⟨x1, r1⟩ <;> simp [xf_ref09_Pruned_b2, S_pr2, H_pr2]
def H_pr3 (s : State) (A0 : List Ack) (A1 : List Mark) (A2 : List Ballot) (A3 : List Answer) : List Blk := (if A0 = [] then (if A1 = [] then (if A2 = [] then (if A3 = [] then [boxS s, boxZ, .box [.dat (di s.self), .dat (di s.status), .dat (di s.view), .dat (di s.last), .own 3 0 s.log.length, .dat (di s.commit), .own 4 0 s.vector.length, .dat (di s.idle), .nil 123 4 true, .nil 125 3 true, .nil 98 6 false, .nil 100 6 false], arrE s.log, arrV s.vector, ] else [boxS s, boxZ, .box [.dat (di s.self), .dat (di s.status), .dat (di s.view), .dat (di s.last), .own 3 0 s.log.length, .dat (di s.commit), .own 4 0 s.vector.length, .dat (di s.idle), .nil 123 4 true, .nil 125 3 true, .nil 98 6 false, .own 5 0 A3.length], arrE s.log, arrV s.vector, arrA A3]) else (if A3 = [] then [boxS s, boxZ, .box [.dat (di s.self), .dat (di s.status), .dat (di s.view), .dat (di s.last), .own 3 0 s.log.length, .dat (di s.commit), .own 4 0 s.vector.length, .dat (di s.idle), .nil 123 4 true, .nil 125 3 true, .own 5 0 A2.length, .nil 100 6 false], arrE s.log, arrV s.vector, arrB A2] else [boxS s, boxZ, .box [.dat (di s.self), .dat (di s.status), .dat (di s.view), .dat (di s.last), .own 3 0 s.log.length, .dat (di s.commit), .own 4 0 s.vector.length, .dat (di s.idle), .nil 123 4 true, .nil 125 3 true, .own 5 0 A2.length, .own 6 0 A3.length], arrE s.log, arrV s.vector, arrB A2, arrA A3])) else (if A2 = [] then (if A3 = [] then [boxS s, boxZ, .box [.dat (di s.self), .dat (di s.status), .dat (di s.view), .dat (di s.last), .own 3 0 s.log.length, .dat (di s.commit), .own 4 0 s.vector.length, .dat (di s.idle), .nil 123 4 true, .own 5 0 A1.length, .nil 98 6 false, .nil 100 6 false], arrE s.log, arrV s.vector, arrM A1] else [boxS s, boxZ, .box [.dat (di s.self), .dat (di s.status), .dat (di s.view), .dat (di s.last), .own 3 0 s.log.length, .dat (di s.commit), .own 4 0 s.vector.length, .dat (di s.idle), .nil 123 4 true, .own 5 0 A1.length, .nil 98 6 false, .own 6 0 A3.length], arrE s.log, arrV s.vector, arrM A1, arrA A3]) else (if A3 = [] then [boxS s, boxZ, .box [.dat (di s.self), .dat (di s.status), .dat (di s.view), .dat (di s.last), .own 3 0 s.log.length, .dat (di s.commit), .own 4 0 s.vector.length, .dat (di s.idle), .nil 123 4 true, .own 5 0 A1.length, .own 6 0 A2.length, .nil 100 6 false], arrE s.log, arrV s.vector, arrM A1, arrB A2] else [boxS s, boxZ, .box [.dat (di s.self), .dat (di s.status), .dat (di s.view), .dat (di s.last), .own 3 0 s.log.length, .dat (di s.commit), .own 4 0 s.vector.length, .dat (di s.idle), .nil 123 4 true, .own 5 0 A1.length, .own 6 0 A2.length, .own 7 0 A3.length], arrE s.log, arrV s.vector, arrM A1, arrB A2, arrA A3]))) else (if A1 = [] then (if A2 = [] then (if A3 = [] then [boxS s, boxZ, .box [.dat (di s.self), .dat (di s.status), .dat (di s.view), .dat (di s.last), .own 3 0 s.log.length, .dat (di s.commit), .own 4 0 s.vector.length, .dat (di s.idle), .own 5 0 A0.length, .nil 125 3 true, .nil 98 6 false, .nil 100 6 false], arrE s.log, arrV s.vector, arrK A0] else [boxS s, boxZ, .box [.dat (di s.self), .dat (di s.status), .dat (di s.view), .dat (di s.last), .own 3 0 s.log.length, .dat (di s.commit), .own 4 0 s.vector.length, .dat (di s.idle), .own 5 0 A0.length, .nil 125 3 true, .nil 98 6 false, .own 6 0 A3.length], arrE s.log, arrV s.vector, arrK A0, arrA A3]) else (if A3 = [] then [boxS s, boxZ, .box [.dat (di s.self), .dat (di s.status), .dat (di s.view), .dat (di s.last), .own 3 0 s.log.length, .dat (di s.commit), .own 4 0 s.vector.length, .dat (di s.idle), .own 5 0 A0.length, .nil 125 3 true, .own 6 0 A2.length, .nil 100 6 false], arrE s.log, arrV s.vector, arrK A0, arrB A2] else [boxS s, boxZ, .box [.dat (di s.self), .dat (di s.status), .dat (di s.view), .dat (di s.last), .own 3 0 s.log.length, .dat (di s.commit), .own 4 0 s.vector.length, .dat (di s.idle), .own 5 0 A0.length, .nil 125 3 true, .own 6 0 A2.length, .own 7 0 A3.length], arrE s.log, arrV s.vector, arrK A0, arrB A2, arrA A3])) else (if A2 = [] then (if A3 = [] then [boxS s, boxZ, .box [.dat (di s.self), .dat (di s.status), .dat (di s.view), .dat (di s.last), .own 3 0 s.log.length, .dat (di s.commit), .own 4 0 s.vector.length, .dat (di s.idle), .own 5 0 A0.length, .own 6 0 A1.length, .nil 98 6 false, .nil 100 6 false], arrE s.log, arrV s.vector, arrK A0, arrM A1] else [boxS s, boxZ, .box [.dat (di s.self), .dat (di s.status), .dat (di s.view), .dat (di s.last), .own 3 0 s.log.length, .dat (di s.commit), .own 4 0 s.vector.length, .dat (di s.idle), .own 5 0 A0.length, .own 6 0 A1.length, .nil 98 6 false, .own 7 0 A3.length], arrE s.log, arrV s.vector, arrK A0, arrM A1, arrA A3]) else (if A3 = [] then [boxS s, boxZ, .box [.dat (di s.self), .dat (di s.status), .dat (di s.view), .dat (di s.last), .own 3 0 s.log.length, .dat (di s.commit), .own 4 0 s.vector.length, .dat (di s.idle), .own 5 0 A0.length, .own 6 0 A1.length, .own 7 0 A2.length, .nil 100 6 false], arrE s.log, arrV s.vector, arrK A0, arrM A1, arrB A2] else [boxS s, boxZ, .box [.dat (di s.self), .dat (di s.status), .dat (di s.view), .dat (di s.last), .own 3 0 s.log.length, .dat (di s.commit), .own 4 0 s.vector.length, .dat (di s.idle), .own 5 0 A0.length, .own 6 0 A1.length, .own 7 0 A2.length, .own 8 0 A3.length], arrE s.log, arrV s.vector, arrK A0, arrM A1, arrB A2, arrA A3]))))
def S_pr3 (s : State) (A0 : List Ack) (A1 : List Mark) (A2 : List Ballot) (i : Nat) (A3 : List Answer) : St := ⟨[(1, .ptr 0 0), (2, .ptr 1 0), (3, .ptr 2 0), (7, .dat (di i))], H_pr3 s A0 A1 A2 A3⟩
theorem l_pr3 (s : State) (A0 : List Ack) (A1 : List Mark) (A2 : List Ballot) (hs : Small s) (hnod : Nodes s) (hn : 1048577 < n) : loopAt (XCode.run (runFn T n (d + 2)) n 0 xf_ref09_Pruned_b3) (headOf 0 xf_ref09_Pruned_k3) n (S_pr3 s A0 A1 A2 0 []) = some ((fun a => (.exit 6, ⟨[(2, .ptr 1 0), (3, .ptr 2 0)], H_pr3 s A0 A1 A2 a⟩)) (s.answers.foldl (goP_answer s.vector) [])) := by
 have hl := hs.answers
 refine loop_fold (S_pr3 s A0 A1 A2) (fun i a => a.length ≤ i) s.answers (goP_answer s.vector) (fun a => (.exit 6, ⟨[(2, .ptr 1 0), (3, .ptr 2 0)], H_pr3 s A0 A1 A2 a⟩)) [] (by simp) (fun i a hi hI => ?_) (fun a _ => ?_) (fun a s h => by simp at h) n (by omega)
 ·have hI : a.length ≤ i := hI
  have hi' : (i : Int) < s.answers.length := by omega
  have hw := wrap_i i (by omega)
  have hL : a.length + 1 ≤ LIM := by simp only [LIM]; omega
  obtain ⟨v1, v2⟩ := hnod.answers s.answers[i] (List.getElem_mem hi)
  have v5 : s.answers[i].node.toNat < s.vector.length := by omega
  have e4 := e_below (n := n) (d := d) s.answers[i].draw s.vector[s.answers[i].node.toNat]
  have g : s.vector.getD s.answers[i].node.toNat ⟨0, 0⟩ = s.vector[s.answers[i].node.toNat] := by simp [List.getD, v5]
  refine ⟨by unfold goP_answer; split <;> (try simp) <;> omega, nextK_some ?_⟩
  unfold goP_answer keepAnswer lives
  rw [g]
  have hlim : 1 ≤ LIM := by simp only [LIM]; omega
  by_cases hq : 0 ≤ cmp s.answers[i].draw s.vector[s.answers[i].node.toNat]
  ·have hq' : ¬ cmp s.answers[i].draw s.vector[s.answers[i].node.toNat] < 0 := by omega
   rcases a with _ | ⟨x, r⟩ <;> rcases A0 with _ | ⟨x0, r0⟩ <;> rcases A1 with _ | ⟨x1, r1⟩ <;> rcases A2 with _ | ⟨x2, r2⟩ <;> simp [xf_ref09_Pruned_b3, xf_ref09_Pruned_k3, S_pr3, H_pr3, hi, hi', hw, hlim, v1, v2, v5, e4, hq, hq'] <;> simp at hL <;> simp [hL, hw]
  ·have hq' : cmp s.answers[i].draw s.vector[s.answers[i].node.toNat] < 0 := by omega
   rcases a with _ | ⟨x, r⟩ <;> rcases A0 with _ | ⟨x0, r0⟩ <;> rcases A1 with _ | ⟨x1, r1⟩ <;> rcases A2 with _ | ⟨x2, r2⟩ <;> simp [xf_ref09_Pruned_b3, xf_ref09_Pruned_k3, S_pr3, H_pr3, hi, hi', hw, hlim, v1, v2, v5, e4, hq, hq'] <;> simp at hL <;> simp [hL, hw]
 ·rcases a with _ | ⟨x, r⟩ <;> rcases A0 with _ | ⟨x0, r0⟩ <;> rcases A1 with _ | ⟨x1, r1⟩ <;> rcases A2 with _ | ⟨x2, r2⟩ <;> simp [xf_ref09_Pruned_b3, S_pr3, H_pr3]
end Go.Ax
namespace Go.Ax
set_option linter.all false
variable {n d : Nat}
set_option maxRecDepth 10000
set_option maxHeartbeats 8000000
theorem fold_ack (v : List Draw) (l : List Ack) : l.foldl (goP_ack v) [] = l.filter (keepAck v) := by
 have := foldl_snoc_filter (fun x => keepAck v x = true) l []
 simp only [List.nil_append, Bool.decide_eq_true] at this
 exact this
theorem fold_mark (v : List Draw) (l : List Mark) : l.foldl (goP_mark v) [] = l.filter (keepMark v) := by
 have := foldl_snoc_filter (fun x => keepMark v x = true) l []
 simp only [List.nil_append, Bool.decide_eq_true] at this
 exact this
theorem fold_ballot (v : List Draw) (l : List Ballot) : l.foldl (goP_ballot v) [] = l.filter (keepBallot v) := by
 have := foldl_snoc_filter (fun x => keepBallot v x = true) l []
 simp only [List.nil_append, Bool.decide_eq_true] at this
 exact this
theorem fold_answer (v : List Draw) (l : List Answer) : l.foldl (goP_answer v) [] = l.filter (keepAnswer v) := by
 have := foldl_snoc_filter (fun x => keepAnswer v x = true) l []
 simp only [List.nil_append, Bool.decide_eq_true] at this
 exact this
def resP (s : State) (A0 : List Ack) (A1 : List Mark) (A2 : List Ballot) (A3 : List Answer) : AV × List Blk := (if A0 = [] then (if A1 = [] then (if A2 = [] then (if A3 = [] then (AV.agg [.dat (di s.self), .dat (di s.status), .dat (di s.view), .dat (di s.last), .own 0 0 s.log.length, .dat (di s.commit), .own 1 0 s.vector.length, .dat (di s.idle), .nil 123 4 true, .nil 125 3 true, .nil 98 6 false, .nil 100 6 false], ([arrE s.log, arrV s.vector] : List Blk)) else (AV.agg [.dat (di s.self), .dat (di s.status), .dat (di s.view), .dat (di s.last), .own 0 0 s.log.length, .dat (di s.commit), .own 1 0 s.vector.length, .dat (di s.idle), .nil 123 4 true, .nil 125 3 true, .nil 98 6 false, .own 2 0 A3.length], ([arrE s.log, arrV s.vector, arrA A3] : List Blk))) else (if A3 = [] then (AV.agg [.dat (di s.self), .dat (di s.status), .dat (di s.view), .dat (di s.last), .own 0 0 s.log.length, .dat (di s.commit), .own 1 0 s.vector.length, .dat (di s.idle), .nil 123 4 true, .nil 125 3 true, .own 2 0 A2.length, .nil 100 6 false], ([arrE s.log, arrV s.vector, arrB A2] : List Blk)) else (AV.agg [.dat (di s.self), .dat (di s.status), .dat (di s.view), .dat (di s.last), .own 0 0 s.log.length, .dat (di s.commit), .own 1 0 s.vector.length, .dat (di s.idle), .nil 123 4 true, .nil 125 3 true, .own 2 0 A2.length, .own 3 0 A3.length], ([arrE s.log, arrV s.vector, arrB A2, arrA A3] : List Blk)))) else (if A2 = [] then (if A3 = [] then (AV.agg [.dat (di s.self), .dat (di s.status), .dat (di s.view), .dat (di s.last), .own 0 0 s.log.length, .dat (di s.commit), .own 1 0 s.vector.length, .dat (di s.idle), .nil 123 4 true, .own 2 0 A1.length, .nil 98 6 false, .nil 100 6 false], ([arrE s.log, arrV s.vector, arrM A1] : List Blk)) else (AV.agg [.dat (di s.self), .dat (di s.status), .dat (di s.view), .dat (di s.last), .own 0 0 s.log.length, .dat (di s.commit), .own 1 0 s.vector.length, .dat (di s.idle), .nil 123 4 true, .own 2 0 A1.length, .nil 98 6 false, .own 3 0 A3.length], ([arrE s.log, arrV s.vector, arrM A1, arrA A3] : List Blk))) else (if A3 = [] then (AV.agg [.dat (di s.self), .dat (di s.status), .dat (di s.view), .dat (di s.last), .own 0 0 s.log.length, .dat (di s.commit), .own 1 0 s.vector.length, .dat (di s.idle), .nil 123 4 true, .own 2 0 A1.length, .own 3 0 A2.length, .nil 100 6 false], ([arrE s.log, arrV s.vector, arrM A1, arrB A2] : List Blk)) else (AV.agg [.dat (di s.self), .dat (di s.status), .dat (di s.view), .dat (di s.last), .own 0 0 s.log.length, .dat (di s.commit), .own 1 0 s.vector.length, .dat (di s.idle), .nil 123 4 true, .own 2 0 A1.length, .own 3 0 A2.length, .own 4 0 A3.length], ([arrE s.log, arrV s.vector, arrM A1, arrB A2, arrA A3] : List Blk))))) else (if A1 = [] then (if A2 = [] then (if A3 = [] then (AV.agg [.dat (di s.self), .dat (di s.status), .dat (di s.view), .dat (di s.last), .own 0 0 s.log.length, .dat (di s.commit), .own 1 0 s.vector.length, .dat (di s.idle), .own 2 0 A0.length, .nil 125 3 true, .nil 98 6 false, .nil 100 6 false], ([arrE s.log, arrV s.vector, arrK A0] : List Blk)) else (AV.agg [.dat (di s.self), .dat (di s.status), .dat (di s.view), .dat (di s.last), .own 0 0 s.log.length, .dat (di s.commit), .own 1 0 s.vector.length, .dat (di s.idle), .own 2 0 A0.length, .nil 125 3 true, .nil 98 6 false, .own 3 0 A3.length], ([arrE s.log, arrV s.vector, arrK A0, arrA A3] : List Blk))) else (if A3 = [] then (AV.agg [.dat (di s.self), .dat (di s.status), .dat (di s.view), .dat (di s.last), .own 0 0 s.log.length, .dat (di s.commit), .own 1 0 s.vector.length, .dat (di s.idle), .own 2 0 A0.length, .nil 125 3 true, .own 3 0 A2.length, .nil 100 6 false], ([arrE s.log, arrV s.vector, arrK A0, arrB A2] : List Blk)) else (AV.agg [.dat (di s.self), .dat (di s.status), .dat (di s.view), .dat (di s.last), .own 0 0 s.log.length, .dat (di s.commit), .own 1 0 s.vector.length, .dat (di s.idle), .own 2 0 A0.length, .nil 125 3 true, .own 3 0 A2.length, .own 4 0 A3.length], ([arrE s.log, arrV s.vector, arrK A0, arrB A2, arrA A3] : List Blk)))) else (if A2 = [] then (if A3 = [] then (AV.agg [.dat (di s.self), .dat (di s.status), .dat (di s.view), .dat (di s.last), .own 0 0 s.log.length, .dat (di s.commit), .own 1 0 s.vector.length, .dat (di s.idle), .own 2 0 A0.length, .own 3 0 A1.length, .nil 98 6 false, .nil 100 6 false], ([arrE s.log, arrV s.vector, arrK A0, arrM A1] : List Blk)) else (AV.agg [.dat (di s.self), .dat (di s.status), .dat (di s.view), .dat (di s.last), .own 0 0 s.log.length, .dat (di s.commit), .own 1 0 s.vector.length, .dat (di s.idle), .own 2 0 A0.length, .own 3 0 A1.length, .nil 98 6 false, .own 4 0 A3.length], ([arrE s.log, arrV s.vector, arrK A0, arrM A1, arrA A3] : List Blk))) else (if A3 = [] then (AV.agg [.dat (di s.self), .dat (di s.status), .dat (di s.view), .dat (di s.last), .own 0 0 s.log.length, .dat (di s.commit), .own 1 0 s.vector.length, .dat (di s.idle), .own 2 0 A0.length, .own 3 0 A1.length, .own 4 0 A2.length, .nil 100 6 false], ([arrE s.log, arrV s.vector, arrK A0, arrM A1, arrB A2] : List Blk)) else (AV.agg [.dat (di s.self), .dat (di s.status), .dat (di s.view), .dat (di s.last), .own 0 0 s.log.length, .dat (di s.commit), .own 1 0 s.vector.length, .dat (di s.idle), .own 2 0 A0.length, .own 3 0 A1.length, .own 4 0 A2.length, .own 5 0 A3.length], ([arrE s.log, arrV s.vector, arrK A0, arrM A1, arrB A2, arrA A3] : List Blk))))))
theorem e_ref09_Pruned (s : State) (hs : Small s) (hnod : Nodes s) (hn : 1048577 < n) : runFn T n (d + 3) 36 [.dat (encS s)] [] = some (resP s (s.acks.filter (keepAck s.vector)) (s.marks.filter (keepMark s.vector)) (s.ballots.filter (keepBallot s.vector)) (s.answers.filter (keepAnswer s.vector))) := by
 have c := e_plain_CopyState (n := n) (d := d) s hs hn
 have h0 := l_pr0 (n := n) (d := d) s hs hnod hn
 rw [fold_ack] at h0
 have h1 := fun A0 => l_pr1 (n := n) (d := d) s A0 hs hnod hn
 simp only [fold_mark] at h1
 have h2 := fun A0 A1 => l_pr2 (n := n) (d := d) s A0 A1 hs hnod hn
 simp only [fold_ballot] at h2
 have h3 := fun A0 A1 A2 => l_pr3 (n := n) (d := d) s A0 A1 A2 hs hnod hn
 simp only [fold_answer] at h3
 generalize s.acks.filter (keepAck s.vector) = A0 at *
 generalize s.marks.filter (keepMark s.vector) = A1 at *
 generalize s.ballots.filter (keepBallot s.vector) = A2 at *
 generalize s.answers.filter (keepAnswer s.vector) = A3 at *
 have h1 := h1 A0
 have h2 := h2 A0 A1
 have h3 := h3 A0 A1 A2
 rw [runFn_succ]
 unfold resP
 rcases A0 with _ | ⟨x0, r0⟩ <;> rcases A1 with _ | ⟨x1, r1⟩ <;> rcases A2 with _ | ⟨x2, r2⟩ <;> rcases A3 with _ | ⟨x3, r3⟩ <;>
  simp [S_pr0, S_pr1, S_pr2, S_pr3, H_pr0, H_pr1, H_pr2, H_pr3, xf_ref09_Pruned_k0, xf_ref09_Pruned_k1, xf_ref09_Pruned_k2, xf_ref09_Pruned_k3, arrE, arrV, arrK, arrM, arrB, arrA, boxS, boxZ] at h0 h1 h2 h3 <;>
  simp [T, xf_ref09_Pruned, xf_ref09_Pruned_k0, xf_ref09_Pruned_k1, xf_ref09_Pruned_k2, xf_ref09_Pruned_k3, c, h0, h1, h2, h3]
end Go.Ax
namespace Go.Ax
set_option linter.all false
variable {n d : Nat}
set_option maxRecDepth 10000
set_option maxHeartbeats 8000000
def S_adR (s : State) (m : Msg) (i : Nat) : St := ⟨[(5, .ptr 0 0), (6, .ptr 1 0), (10, .ptr 2 0), (11, .dat (di i))],
 [boxMsg m, boxZ, .box [.dat (di s.self), .dat (di s.status), .dat (di s.view), .dat (di s.last), .own 3 0 s.log.length, .dat (di s.commit), .own 4 0 s.vector.length, .dat (di s.idle), .own 5 0 s.acks.length, .own 6 0 s.marks.length, .own 7 0 s.ballots.length, .own 8 0 s.answers.length],
  arrE s.log, arrV (acc2 s.vector m.vector i), arrK s.acks, arrM s.marks, arrB s.ballots, arrA s.answers]⟩
theorem l_adR (s : State) (m : Msg) (h : m.vector.length = s.vector.length) (h7 : s.vector.length ≤ 7) (hn : 1048577 < n) : loopAt (XCode.run (runFn T n (d + 2)) n 0 xf_ref09_Admit_b0) (headOf 0 xf_ref09_Admit_k0) n (S_adR s m 0) =
  some (.exit 1, ⟨[(6, .ptr 1 0), (10, .ptr 2 0)], (S_adR s m m.vector.length).H⟩) := by
 refine loop_for (S_adR s m) m.vector.length (.exit 1, ⟨[(6, .ptr 1 0), (10, .ptr 2 0)], (S_adR s m m.vector.length).H⟩) (fun j hj => nextK_some ?_) ?_ (fun s h => by simp at h) n (by omega)
 ·have hj' : (j : Int) < m.vector.length := by omega
  have hjo : j < s.vector.length := by omega
  have hjo' : (j : Int) < s.vector.length := by omega
  have hw := wrap_i j (by omega)
  have h43 := e_below (n := n) (d := d) s.vector[j] m.vector[j]
  have hg := acc2_get h.symm hjo
  have hlen := acc2_length h.symm (j := j) (by omega)
  have hg2 : ∀ hh : j < (acc2 s.vector m.vector j).length, (acc2 s.vector m.vector j)[j] = s.vector[j] := fun hh => by rw [List.getElem?_eq_getElem hh] at hg; injection hg
  have hs := acc2_succ h.symm hjo hj
  by_cases hc : cmp s.vector[j] m.vector[j] < 0
  ·have hm : mxd s.vector[j] m.vector[j] = m.vector[j] := if_pos hc
   rw [hm] at hs
   simp [xf_ref09_Admit_b0, xf_ref09_Admit_k0, S_adR, hj', hj, hjo, hjo', hw, h43, hg2, hc, hs, hlen]
  ·have hm : mxd s.vector[j] m.vector[j] = s.vector[j] := if_neg hc
   have hs2 : acc2 s.vector m.vector (j + 1) = acc2 s.vector m.vector j := by
    have hh : j < (acc2 s.vector m.vector j).length := by omega
    rw [hs, hm, ← hg2 hh, List.set_getElem_self]
   simp [xf_ref09_Admit_b0, xf_ref09_Admit_k0, S_adR, hj', hj, hjo, hjo', hw, h43, hg2, hc, hs2, hlen]
 ·simp [xf_ref09_Admit_b0, S_adR]
theorem cmp_swap (x y : Draw) : cmp x y < 0 ↔ 0 < cmp y x := by rw [cmp_neg x y]; omega
theorem e_ref09_Admit (c : Cfg) (s : State) (m : Msg) (hs : Small s) (hm : m.log.length ≤ 1048577) (hn : 1999999 < n) :
  runFn T n (d + 8) 58 [.dat (encCfg c), .dat (encS s), .dat (encM m)] [] = some (.tup [.dat (encS (admS c s m)), .dat (.bool (admB c s m)), .dat (di (admErr c s m))], []) := by
 have h1 := e_ref09_Check (n := n) (d := d) c s hs (by omega)
 have h2 := e_ref07_Check (n := n) (d := d + 2) c m hm (by omega)
 have h3 := e_plain_CopyState (n := n) (d := d + 5) s hs (by omega)
 have h4 := e_ref07_Between (n := n) (d := d + 6) m.kind
 rw [runFn_succ]
 unfold admS admB
 by_cases he : stateErr c s = 0
 ·have hE : admErr c s m = msgErr c m := by unfold admErr; rw [if_neg (by simp [he])]
  obtain ⟨hnod, hlen, hs1, hs2, hc⟩ := nodes_ok he
  have hf : 1 ≤ c.f ∧ c.f ≤ 3 := by unfold cfgOk at hc; omega
  rw [he] at h1
  rw [hE]
  by_cases hme : msgErr c m = 0
  ·rw [hme] at h2 ⊢
   cases hb : between m.kind
   ·rw [hb] at h4
    simp [T, xf_ref09_Admit, h1, h2, h3, h4]
   ·rw [hb] at h4
    obtain ⟨hvl, hm1, hm2⟩ := msg_ok hme hb
    by_cases q1 : m.node = s.self
    ·have q1' := eq_true q1
     simp [T, xf_ref09_Admit, h1, h2, h3, h4, q1']
    ·have q1' := eq_false q1
     by_cases q2 : c.unguarded = true
     ·have q2' := eq_true q2
      simp [T, xf_ref09_Admit, h1, h2, h3, h4, q1', q2']
     ·have q2' := eq_false q2
      have hvs : m.vector.length = s.vector.length := by omega
      have h7 : s.vector.length ≤ 7 := by simp only [NN] at hvl; omega
      have j1 : m.node.toNat < m.vector.length := by omega
      have j2 : m.node.toNat < s.vector.length := by omega
      have j3 : m.node < m.vector.length := by omega
      have j4 : m.node < s.vector.length := by omega
      have k1 : s.self.toNat < m.vector.length := by omega
      have k2 : s.self.toNat < s.vector.length := by omega
      have k3 : s.self < m.vector.length := by omega
      have k4 : s.self < s.vector.length := by omega
      have h5 := e_below (n := n) (d := d + 5) m.vector[m.node.toNat] s.vector[m.node.toNat]
      have h6 := e_below (n := n) (d := d + 5) s.vector[s.self.toNat] m.vector[s.self.toNat]
      have f1 : m.vector.getD m.node.toNat ⟨0, 0⟩ = m.vector[m.node.toNat] := by simp [List.getD, j1]
      have f2 : s.vector.getD m.node.toNat ⟨0, 0⟩ = s.vector[m.node.toNat] := by simp [List.getD, j2]
      have g1 : m.vector.getD s.self.toNat ⟨0, 0⟩ = m.vector[s.self.toNat] := by simp [List.getD, k1]
      have g2 : s.vector.getD s.self.toNat ⟨0, 0⟩ = s.vector[s.self.toNat] := by simp [List.getD, k2]
      by_cases q3 : cmp m.vector[m.node.toNat] s.vector[m.node.toNat] < 0
      ·have hO : overB s m = true := by unfold overB; rw [f1, f2]; exact decide_eq_true ((cmp_swap _ _).1 q3)
       simp [T, xf_ref09_Admit, h1, h2, h3, h4, h5, q1', q2', j1, j2, j3, j4, hm1, q3, hO]
      ·have hO : overB s m = false := by unfold overB; rw [f1, f2]; exact decide_eq_false fun h => q3 ((cmp_swap _ _).2 h)
       by_cases q4 : cmp s.vector[s.self.toNat] m.vector[s.self.toNat] < 0
       ·have hA : aheadB s m = true := by unfold aheadB; rw [g1, g2]; exact decide_eq_true ((cmp_swap _ _).1 q4)
        simp [T, xf_ref09_Admit, h1, h2, h3, h4, h5, h6, q1', q2', j1, j2, j3, j4, k1, k2, k3, k4, hm1, hs1, q3, q4, hO, hA]
       ·have hA : aheadB s m = false := by unfold aheadB; rw [g1, g2]; exact decide_eq_false fun h => q4 ((cmp_swap _ _).2 h)
        have hl := l_adR (n := n) (d := d + 5) s m hvs h7 (by omega)
        have hacc : acc2 s.vector m.vector m.vector.length = mxv s.vector m.vector := by
         unfold acc2
         rw [List.take_of_length_le (by simp [mxv]; omega), List.drop_eq_nil_of_le (by omega), List.append_nil]
        have hacc0 : acc2 s.vector m.vector 0 = s.vector := by simp [acc2]
        have hml := mxv_len hvs
        have hs' : Small { s with vector := mxv s.vector m.vector } := ⟨hs.log, by simp only [hml]; exact hs.vector, hs.acks, hs.marks, hs.ballots, hs.answers, hs.blogs, hs.alogs⟩
        have hnod' : Nodes { s with vector := mxv s.vector m.vector } := ⟨by simp only [hml]; exact hnod.acks, by simp only [hml]; exact hnod.marks, by simp only [hml]; exact hnod.ballots, by simp only [hml]; exact hnod.answers⟩
        have h8 := e_ref09_Pruned (n := n) (d := d + 4) { s with vector := mxv s.vector m.vector } hs' hnod' (by omega)
        simp only [S_adR, hacc, hacc0] at hl
        simp [xf_ref09_Admit_k0, boxMsg, boxZ, arrE, arrV, arrK, arrM, arrB, arrA] at hl
        simp only at h8
        unfold struck
        generalize mxv s.vector m.vector = V at *
        generalize s.acks.filter (keepAck V) = A0 at *
        generalize s.marks.filter (keepMark V) = A1 at *
        generalize s.ballots.filter (keepBallot V) = A2 at *
        generalize s.answers.filter (keepAnswer V) = A3 at *
        unfold resP at h8
        have htk : List.take s.vector.length (List.map encD V) = List.map encD V := List.take_of_length_le (by simp [hml])
        rcases A0 with _ | ⟨x0, r0⟩ <;> rcases A1 with _ | ⟨x1, r1⟩ <;> rcases A2 with _ | ⟨x2, r2⟩ <;> rcases A3 with _ | ⟨x3, r3⟩ <;>
         simp [arrE, arrV, arrK, arrM, arrB, arrA, hml] at h8 <;>
         simp [T, xf_ref09_Admit, xf_ref09_Admit_k0, h1, h2, h3, h4, h5, h6, h8, hl, q1', q2', j1, j2, j3, j4, k1, k2, k3, k4, hm1, hs1, q3, q4, hO, hA, hml, htk]
  ·simp [T, xf_ref09_Admit, h1, h2, hme, zeroS]
 ·have hE : admErr c s m = stateErr c s := by unfold admErr; rw [if_pos he]
  rw [hE]
  simp [T, xf_ref09_Admit, h1, he, zeroS]
end Go.Ax
