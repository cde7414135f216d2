/-
  Which states may be.
-/
import Derived.Test.YtfoglingdnhjpaaGreatDoorEA
namespace Go.Ax
set_option linter.all false
variable {n d : Nat}
set_option maxRecDepth 10000
set_option maxHeartbeats 4000000
def headOff (c : Cfg) (s : State) : Bool := decide (s.self < 0) || decide (nodesOf c ≤ s.self) || decide (s.view < 0) || decide (4294967296 < s.view) || decide (s.last < 0) || decide (s.view < s.last) || decide (s.idle < 0) || decide (c.patience ≤ s.idle) || !decide (↑s.vector.length = nodesOf c)
def bodyOk (c : Cfg) (s : State) : Bool := if s.status = 1 then normalOk c s else if s.status = 2 then changingOk c s else if s.status = 3 then recoverOk c s else false
def stateOk (c : Cfg) (s : State) : Bool := !headOff c s && logOk c s.log s.commit && votedOk s && bodyOk c s
def stateErr (c : Cfg) (s : State) : Int := if cfgOk c then (if stateOk c s then 0 else 2) else 1
theorem head_self {c : Cfg} {s : State} (h : headOff c s = false) : 0 ≤ s.self ∧ s.self < s.vector.length := by
 simp [headOff] at h
 omega
theorem e_core_Check (c : Cfg) (s : State) (hs : Small s) (hn : 1048577 < n) : runFn T n (d + 5) 75 [.dat (encCfg c), .dat (encS s)] [] = some (.dat (di (stateErr c s)), []) := by
 have h1 := e_core_CheckConfig (n := n) (d := d + 3) c
 have h2 := e_core_Nodes (n := n) (d := d + 2) c
 have h3 := e_core_logged (n := n) (d := d + 2) c s.log s.commit hs.log
 have h4 := e_core_voted (n := n) (d := d + 2) s hs hn
 rw [runFn_succ]
 unfold stateErr
 by_cases hc : cfgOk c
 ·rw [if_pos hc] at h1 ⊢
  unfold stateOk
  cases hb : headOff c s
  ·have hself := head_self hb
   unfold headOff at hb
   cases hl : logOk c s.log s.commit
   ·rw [hl] at h3
    simp [T, xf_core_Check, h1, h2, h3, hb]
   ·rw [hl] at h3
    cases hv : votedOk s
    ·rw [hv] at h4
     simp [T, xf_core_Check, h1, h2, h3, h4, hb]
    ·rw [hv] at h4
     unfold bodyOk
     by_cases s1 : s.status = 1
     ·have h5 := e_core_normal (n := n) (d := d + 2) c s hc hs hn
      rw [if_pos s1]
      have s1' := eq_true s1
      cases hr : normalOk c s <;> rw [hr] at h5 <;> simp [T, xf_core_Check, h1, h2, h3, h4, h5, hb, s1']
     ·have s1' := eq_false s1
      rw [if_neg s1]
      by_cases s2 : s.status = 2
      ·have h5 := e_core_changing (n := n) (d := d + 1) c s hc hs hn
       rw [if_pos s2]
       have s2' := eq_true s2
       cases hr : changingOk c s <;> rw [hr] at h5 <;> simp [T, xf_core_Check, h1, h2, h3, h4, h5, hb, s1', s2']
      ·have s2' := eq_false s2
       rw [if_neg s2]
       by_cases s3 : s.status = 3
       ·have h5 := e_core_recovering (n := n) (d := d) c s hs hself hn
        rw [if_pos s3]
        have s3' := eq_true s3
        cases hr : recoverOk c s <;> rw [hr] at h5 <;> simp [T, xf_core_Check, h1, h2, h3, h4, h5, hb, s1', s2', s3']
       ·have s3' := eq_false s3
        rw [if_neg s3]
        simp [T, xf_core_Check, h1, h2, h3, h4, hb, s1', s2', s3']
  ·unfold headOff at hb
   simp [T, xf_core_Check, h1, h2, hb]
 ·rw [if_neg hc] at h1 ⊢
  simp [T, xf_core_Check, h1]
end Go.Ax
namespace Go.Ax
set_option linter.all false
variable {n d : Nat}
set_option maxRecDepth 10000
set_option maxHeartbeats 4000000
def S_m0 (s : State) (i : Nat) : St := ⟨[(3, .ptr 0 0), (7, .dat (di i))], [boxS s]⟩
theorem l_ref09_may0 (cf : CallF) (s : State) (hs : Small s) (hn : 1048577 < n) :
  loopAt (XCode.run cf n 0 xf_ref09_may_b0) (headOf 0 xf_ref09_may_k0) n (S_m0 s 0) = some ((s.acks.find? (badAck s)).elim (.exit 1, ⟨[], [boxS s]⟩) (fun _ => (.ret, ⟨[(4, .dat (.bool false))], [boxS s]⟩))) := by
 have hl := hs.acks
 refine loop_find (S_m0 s) s.acks (badAck s) (fun _ => (.ret, ⟨[(4, .dat (.bool false))], [boxS s]⟩)) (.exit 1, ⟨[], [boxS s]⟩) (fun i hi hp => ?_) (fun i hi hp => ?_) ?_ (fun x s h => by simp at h) (fun s h => by simp at h) n (by omega)
 ·have hi' : (i : Int) < s.acks.length := by omega
  cases h1 : decide (s.acks[i].place < 1)
  ·have h2 : (s.log.length : Int) < s.acks[i].place := by
    unfold badAck at hp; rw [h1] at hp; simpa using hp
   simp at h1
   have h1' : ¬ s.acks[i].place < 1 := by omega
   simp [xf_ref09_may_b0, S_m0, hi, hi', h1, h1', h2]
  ·simp at h1
   simp [xf_ref09_may_b0, S_m0, hi, hi', h1]
 ·have hi' : (i : Int) < s.acks.length := by omega
  have hw := wrap_i i (by omega)
  have hp' : ¬ (s.acks[i].place < 1) ∧ ¬ ((s.log.length : Int) < s.acks[i].place) := by simpa [badAck] using hp
  refine nextK_some ?_
  simp [xf_ref09_may_b0, xf_ref09_may_k0, S_m0, hi, hi', hp'.1, hp'.2, hw]
 ·simp [xf_ref09_may_b0, S_m0]
def S_m1 (c : Cfg) (s : State) (i : Nat) : St := ⟨[(2, .ptr 0 0), (3, .ptr 1 0), (8, .dat (di i))], [boxC c, boxS s]⟩
theorem l_ref09_may1 (c : Cfg) (s : State) (hc : cfgOk c) (hs : Small s) (hn : 1048577 < n) :
  loopAt (XCode.run (runFn T n (d + 4)) n 0 xf_ref09_may_b1) (headOf 0 xf_ref09_may_k1) n (S_m1 c s 0) = some ((s.ballots.find? (badBal c s)).elim (.exit 3, ⟨[], [boxC c, boxS s]⟩) (fun b => (.ret, ⟨[(4, .dat (.bool false))], [boxC c, boxS s, boxB b]⟩))) := by
 have hl := hs.ballots
 refine loop_find (S_m1 c s) s.ballots (badBal c s) (fun b => (.ret, ⟨[(4, .dat (.bool false))], [boxC c, boxS s, boxB b]⟩)) (.exit 3, ⟨[], [boxC c, boxS s]⟩) (fun i hi hp => ?_) (fun i hi hp => ?_) ?_ (fun x s h => by simp at h) (fun s h => by simp at h) n (by omega)
 ·have hi' : (i : Int) < s.ballots.length := by omega
  have hL := e_ref09_logged (n := n) (d := d) c s.ballots[i].log s.ballots[i].commit hc (hs.blogs _ (List.getElem_mem hi)) hn
  unfold badBal at hp
  cases hb1 : (decide (s.ballots[i].last < 0) || decide (s.view ≤ s.ballots[i].last))
  ·rw [hb1] at hp
   simp at hp
   rw [hp] at hL
   simp [xf_ref09_may_b1, S_m1, hi, hi', hL, hb1]
  ·simp [xf_ref09_may_b1, S_m1, hi, hi', hb1]
 ·have hi' : (i : Int) < s.ballots.length := by omega
  have hw := wrap_i i (by omega)
  have hL := e_ref09_logged (n := n) (d := d) c s.ballots[i].log s.ballots[i].commit hc (hs.blogs _ (List.getElem_mem hi)) hn
  unfold badBal at hp
  simp only [Bool.or_eq_false_iff] at hp
  obtain ⟨⟨hb1, hb2⟩, hb3⟩ := hp
  have hb3' : logOk c s.ballots[i].log s.ballots[i].commit = true := by simpa using hb3
  rw [hb3'] at hL
  refine nextK_some ?_
  simp [xf_ref09_may_b1, xf_ref09_may_k1, S_m1, hi, hi', hL, hw, hb1, hb2]
 ·simp [xf_ref09_may_b1, S_m1]
def S_rr (c : Cfg) (s : State) (i : Nat) : St := ⟨[(2, .dat (di (nodesOf c))), (3, .ptr 0 0), (4, .ptr 1 0), (7, .dat (di i))], [boxC c, boxS s]⟩
theorem l_ref09_recovering (c : Cfg) (s : State) (hc : cfgOk c) (hs : Small s) (hn : 1048577 < n) :
  loopAt (XCode.run (runFn T n (d + 4)) n 0 xf_ref09_recovering_b0) (headOf 0 xf_ref09_recovering_k0) n (S_rr c s 0) = some ((s.answers.find? (badAns c)).elim (.exit 0, ⟨[], [boxC c, boxS s]⟩) (fun b => (.ret, ⟨[(6, .dat (.bool false))], [boxC c, boxS s, boxA b]⟩))) := by
 have hl := hs.answers
 have hN : nodesOf c = 2 * c.f + 1 := if_pos hc
 have hN0 : nodesOf c ≠ 0 := by rw [hN]; unfold cfgOk at hc; omega
 refine loop_find (S_rr c s) s.answers (badAns c) (fun b => (.ret, ⟨[(6, .dat (.bool false))], [boxC c, boxS s, boxA b]⟩)) (.exit 0, ⟨[], [boxC c, boxS s]⟩) (fun i hi hp => ?_) (fun i hi hp => ?_) ?_ (fun x s h => by simp at h) (fun s h => by simp at h) n (by omega)
 ·have hi' : (i : Int) < s.answers.length := by omega
  have hL := e_ref09_logged (n := n) (d := d) c s.answers[i].log s.answers[i].commit hc (hs.alogs _ (List.getElem_mem hi)) hn
  cases hb1 : (decide (s.answers[i].view < 0) || decide (4294967296 < s.answers[i].view))
  ·cases hb2 : logOk c s.answers[i].log s.answers[i].commit
   ·rw [hb2] at hL
    simp [xf_ref09_recovering_b0, S_rr, hi, hi', hL, hb1]
   ·rw [hb2] at hL
    simp [badAns, hb2] at hp
    have hb1' := hb1
    simp at hb1'
    have hp' : ¬s.answers[i].node = primaryOf c s.answers[i].view ∧ ¬s.answers[i].log = [] := by
     rcases hp with hp | hp
     ·omega
     ·exact hp
    have hpr : primaryOf c s.answers[i].view = s.answers[i].view.tmod (nodesOf c) := by rw [hN]; exact if_pos ⟨hc, hb1'⟩
    rw [hpr] at hp'
    simp [xf_ref09_recovering_b0, S_rr, hi, hi', hL, hb1, hp', dec_len_pos, hN0]
  ·simp [xf_ref09_recovering_b0, S_rr, hi, hi', hb1]
 ·have hi' : (i : Int) < s.answers.length := by omega
  have hw := wrap_i i (by omega)
  have hL := e_ref09_logged (n := n) (d := d) c s.answers[i].log s.answers[i].commit hc (hs.alogs _ (List.getElem_mem hi)) hn
  unfold badAns at hp
  simp only [Bool.or_eq_false_iff] at hp
  obtain ⟨⟨⟨hb1, hb2⟩, hb3⟩, hb4⟩ := hp
  have hb2' : logOk c s.answers[i].log s.answers[i].commit = true := by simpa using hb3
  rw [hb2'] at hL
  have hv : 0 ≤ s.answers[i].view ∧ s.answers[i].view ≤ 4294967296 := by simp at hb1 hb2; omega
  have hpr : primaryOf c s.answers[i].view = s.answers[i].view.tmod (nodesOf c) := by rw [hN]; exact if_pos ⟨hc, hv⟩
  rw [hpr] at hb4
  refine nextK_some ?_
  simp [xf_ref09_recovering_b0, xf_ref09_recovering_k0, S_rr, hi, hi', hL, hw, hb1, hb2, hN0]
  intro h
  simpa [h] using hb4
 ·simp [xf_ref09_recovering_b0, S_rr]
end Go.Ax
namespace Go.Ax
set_option linter.all false
variable {n d : Nat}
set_option maxRecDepth 10000
set_option maxHeartbeats 4000000
theorem e_ref09_recovering (c : Cfg) (s : State) (hc : cfgOk c) (hs : Small s) (hh : headOff c s = false) (hlg : logOk c s.log s.commit = true) (hn : 1048577 < n) : runFn T n (d + 5) 102 [.dat (encCfg c), .dat (encS s), .dat (di (nodesOf c))] [] = some (.dat (.bool (recoverOk c s)), []) := by
 have h0 := l_ref09_recovering (d := d) c s hc hs hn
 simp [S_rr, xf_ref09_recovering_k0] at h0
 have hv := head_self hh
 simp [headOff] at hh
 simp [logOk] at hlg
 have l1 := hs.log
 have l2 := hs.acks
 have l3 := hs.marks
 have l4 := hs.ballots
 have hcp : c.patience ≤ 100 := by unfold cfgOk at hc; omega
 rw [runFn_succ]
 have w1 := wrap_small (x := s.view + s.last) (by omega)
 have w2 := wrap_small (x := s.view + s.last + s.commit) (by omega)
 have w3 := wrap_small (x := s.view + s.last + s.commit + s.idle) (by omega)
 have w4 := wrap_small (x := s.view + s.last + s.commit + s.idle + s.log.length) (by omega)
 have w5 := wrap_small (x := s.view + s.last + s.commit + s.idle + s.log.length + s.acks.length) (by omega)
 have w6 := wrap_small (x := s.view + s.last + s.commit + s.idle + s.log.length + s.acks.length + s.marks.length) (by omega)
 have w7 := wrap_small (x := s.view + s.last + s.commit + s.idle + s.log.length + s.acks.length + s.marks.length + s.ballots.length) (by omega)
 have hr : recHead s = decide (0 < s.view + s.last + s.commit + s.idle + s.log.length + s.acks.length + s.marks.length + s.ballots.length) := by
  rw [Bool.eq_iff_iff]
  simp only [recHead, Bool.or_eq_true, Bool.not_eq_true', decide_eq_false_iff_not, decide_eq_true_eq, List.isEmpty_eq_false_iff, ne_eq, ← List.length_eq_zero_iff]
  omega
 unfold recoverOk
 cases hb : recHead s <;> rw [hr] at hb
 ·obtain ⟨k, hk⟩ := Int.eq_ofNat_of_zero_le hv.1
  have hk' : k < s.vector.length := by omega
  have e : selfDraw s = s.vector[k] := by simp [selfDraw, hk, List.getD, hk']
  rw [e]
  by_cases hz : s.vector[k] = ⟨0, 0⟩
  ·have hz' := hz
   rw [draw_eq] at hz'
   simp [T, xf_ref09_recovering, w1, w2, w3, w4, w5, w6, w7, hb, hk, hk', hz', hz]
  ·have hz' := hz
   rw [draw_eq] at hz'
   cases hf : s.answers.find? (badAns c) with
   | none =>
    rw [hf] at h0; simp at h0
    simp only [boxS, hk] at h0
    simp [T, xf_ref09_recovering, xf_ref09_recovering_k0, w1, w2, w3, w4, w5, w6, w7, hb, hk, hk', hz', hz, h0]
   | some a =>
    rw [hf] at h0; simp at h0
    simp only [boxS, hk] at h0
    simp [T, xf_ref09_recovering, xf_ref09_recovering_k0, w1, w2, w3, w4, w5, w6, w7, hb, hk, hk', hz', hz, h0]
 ·simp [T, xf_ref09_recovering, w1, w2, w3, w4, w5, w6, w7, hb]
theorem sum2 {α β : Type} (a : List α) (b : List β) : decide ((0 : Int) < (a.length : Int) + b.length) = !(a.isEmpty && b.isEmpty) := by
 cases a <;> cases b <;> simp <;> omega
theorem sum3 {α β γ : Type} (a : List α) (b : List β) (c : List γ) : decide ((0 : Int) < (a.length : Int) + b.length + c.length) = !(a.isEmpty && b.isEmpty && c.isEmpty) := by
 cases a <;> cases b <;> cases c <;> simp <;> omega
theorem e_ref09_may (c : Cfg) (s : State) (hc : cfgOk c) (hs : Small s) (hn : 1048577 < n) : runFn T n (d + 6) 63 [.dat (encCfg c), .dat (encS s)] [] = some (.dat (.bool (stateOk c s)), []) := by
 have h1 := e_ref09_Nodes (n := n) (d := d + 2) c
 have h2 := e_ref09_logged (n := n) (d := d + 1) c s.log s.commit hc hs.log hn
 have h3 := e_ref09_votes (n := n) (d := d + 3) s hs hn
 have l0 := l_ref09_may0 (runFn T n (d + 5)) s hs hn
 have l1 := l_ref09_may1 (n := n) (d := d + 1) c s hc hs hn
 have hN : nodesOf c = 2 * c.f + 1 := if_pos hc
 have hN0 : nodesOf c ≠ 0 := by rw [hN]; unfold cfgOk at hc; omega
 have hld : leads c s = decide (s.self = s.view.tmod (nodesOf c)) := by rw [hN]; rfl
 rw [runFn_succ]
 unfold stateOk
 cases hb6 : (decide (s.self < 0) || decide (nodesOf c ≤ s.self) || decide (s.view < 0) || decide (4294967296 < s.view) || decide (s.last < 0) || decide (s.view < s.last))
 ·cases hlg : logOk c s.log s.commit
  ·rw [hlg] at h2
   simp [T, xf_ref09_may, h1, h2, hb6]
  ·rw [hlg] at h2
   cases hb3 : (!decide (↑s.vector.length = nodesOf c) || decide (s.idle < 0) || decide (c.patience ≤ s.idle))
   ·have hh : headOff c s = false := by
     unfold headOff
     simp at hb6 hb3
     simp
     omega
    have hN2 : (s.vector.length : Int) = nodesOf c := by simp at hb3; omega
    rw [hN2] at h3
    cases hv : votedOk s
    ·rw [hv] at h3
     simp [T, xf_ref09_may, h1, h2, h3, hb6, hb3]
    ·rw [hv] at h3
     have k1 := hs.marks
     have k2 := hs.ballots
     have k3 := hs.answers
     have k4 := hs.acks
     have wA := wrap_small (x := (s.marks.length : Int) + s.ballots.length) (by omega)
     have wB := wrap_small (x := (s.marks.length : Int) + s.ballots.length + s.answers.length) (by omega)
     have wC := wrap_small (x := (s.acks.length : Int) + s.answers.length) (by omega)
     have hlast : decide (s.view ≤ s.last) = decide (s.last = s.view) := by
      simp at hb6
      exact decide_eq_decide.2 ⟨fun h => by omega, fun h => by omega⟩
     have hld' : decide (s.self = s.view.tmod (nodesOf c)) = leads c s := hld.symm
     unfold bodyOk
     rw [hh]
     by_cases s1 : s.status = 1
     ·rw [if_pos s1]
      have s1' := eq_true s1
      simp [S_m0, xf_ref09_may_k0] at l0
      unfold normalOk
      cases hf : s.acks.find? (badAck s) with
      | none =>
       rw [hf] at l0; simp at l0
       simp [T, xf_ref09_may, xf_ref09_may_k0, h1, h2, h3, hb6, hb3, s1', hN0, hld', wA, wB, l0]
       rw [sum3, dec_len_pos]
       cases leads c s <;> cases decide (s.last = s.view) <;> cases s.marks.isEmpty <;> cases s.ballots.isEmpty <;> cases s.answers.isEmpty <;> cases s.acks.isEmpty <;> simp
      | some a =>
       rw [hf] at l0; simp at l0
       simp [T, xf_ref09_may, xf_ref09_may_k0, h1, h2, h3, hb6, hb3, s1', hN0, hld', wA, wB, l0]
       intro _ _ _ _ _ h6
       rw [h6] at hf; simp at hf
     ·have s1' := eq_false s1
      rw [if_neg s1]
      by_cases s2 : s.status = 2
      ·rw [if_pos s2]
       have s2' := eq_true s2
       simp [S_m1, xf_ref09_may_k1] at l1
       unfold changingOk
       cases hf : s.ballots.find? (badBal c s) with
       | none =>
        rw [hf] at l1; simp at l1
        simp [T, xf_ref09_may, xf_ref09_may_k1, h1, h2, h3, hb6, hb3, s1', s2', hN0, hld', wC, l1]
        rw [sum2, dec_len_pos, hlast]
        cases leads c s <;> cases decide (s.last = s.view) <;> cases s.ballots.isEmpty <;> cases s.answers.isEmpty <;> cases s.acks.isEmpty <;> cases decide (c.f ≤ ↑s.ballots.length) <;> rfl
       | some a =>
        rw [hf] at l1; simp at l1
        simp [T, xf_ref09_may, xf_ref09_may_k1, h1, h2, h3, hb6, hb3, s1', s2', hN0, hld', wC, l1]
      ·have s2' := eq_false s2
       rw [if_neg s2]
       by_cases s3 : s.status = 3
       ·have h5 := e_ref09_recovering (n := n) (d := d) c s hc hs hh hlg hn
        rw [if_pos s3]
        have s3' := eq_true s3
        simp [T, xf_ref09_may, h1, h2, h3, hb6, hb3, s1', s2', s3', hN0, h5]
       ·have s3' := eq_false s3
        rw [if_neg s3]
        simp [T, xf_ref09_may, h1, h2, h3, hb6, hb3, s1', s2', s3', hN0]
   ·have hh : headOff c s = true := by
     unfold headOff
     simp at hb6 hb3
     simp
     omega
    simp [T, xf_ref09_may, h1, h2, hb6, hb3, hh]
 ·have hh : headOff c s = true := by
   unfold headOff
   rw [hb6]; simp
  simp [T, xf_ref09_may, h1, hb6, hh]
theorem e_ref09_Check (c : Cfg) (s : State) (hs : Small s) (hn : 1048577 < n) : runFn T n (d + 7) 24 [.dat (encCfg c), .dat (encS s)] [] = some (.dat (di (stateErr c s)), []) := by
 have h1 := e_ref09_CheckConfig (n := n) (d := d + 4) c
 rw [runFn_succ]
 unfold stateErr
 by_cases hc : cfgOk c
 ·have h2 := e_ref09_may (n := n) (d := d) c s hc hs hn
  rw [if_pos hc] at h1 ⊢
  cases hr : stateOk c s <;> rw [hr] at h2 <;> simp [T, xf_ref09_Check, h1, h2]
 ·rw [if_neg hc] at h1 ⊢
  simp [T, xf_ref09_Check, h1]
end Go.Ax
namespace Go.Ax
set_option linter.all false
variable {n d : Nat}
set_option maxRecDepth 10000
set_option maxHeartbeats 4000000
theorem lim_le {k : Nat} (h : k ≤ 1048577) : k ≤ LIM := by simp only [LIM]; omega
theorem e_clone_Entry (l : List Ent) (hl : l.length ≤ 1048577) : runFn T n (d + 1) 140 [.dat (encLog l)] [] = some (.dat (encLog l), []) := by
 rw [runFn_succ]
 simp [T, xn_slices_Clone_Entry_Entry, cloneNv, lim_le hl]
theorem e_clone_Vector (l : List Draw) (hl : l.length ≤ 1048577) : runFn T n (d + 1) 141 [.dat (encV l)] [] = some (.dat (encV l), []) := by
 rw [runFn_succ]
 simp [T, xn_slices_Clone_Vector_Draw, cloneNv, lim_le hl]
theorem e_clone_Ack (l : List Ack) (hl : l.length ≤ 1048577) : runFn T n (d + 1) 142 [.dat (encAcks l)] [] = some (.dat (encAcks l), []) := by
 rw [runFn_succ]
 simp [T, xn_slices_Clone_Ack_Ack, cloneNv, lim_le hl]
theorem e_clone_Mark (l : List Mark) (hl : l.length ≤ 1048577) : runFn T n (d + 1) 143 [.dat (encMarks l)] [] = some (.dat (encMarks l), []) := by
 rw [runFn_succ]
 simp [T, xn_slices_Clone_Mark_Mark, cloneNv, lim_le hl]
def bcell (j : Nat) (l : List Ballot) : AV := if l = [] then .nil 98 6 false else .own j 0 l.length
def bblk (l : List Ballot) : List Blk := if l = [] then [] else [.arr 98 6 false false (l.map encBal)]
def acell (j : Nat) (l : List Answer) : AV := if l = [] then .nil 100 6 false else .own j 0 l.length
def ablk (l : List Answer) : List Blk := if l = [] then [] else [.arr 100 6 false false (l.map encAns)]
theorem e_clone_Ballot (l : List Ballot) (hl : l.length ≤ 1048577) : runFn T n (d + 1) 144 [.dat (encBals l)] [] = some (bcell 0 l, bblk l) := by
 rw [runFn_succ]
 have h := lim_le hl
 cases l with
 | nil => simp [T, xn_slices_Clone_Ballot_Ballot, cloneNv, bcell, bblk]
 | cons x r => simp at h; simp [T, xn_slices_Clone_Ballot_Ballot, cloneNv, bcell, bblk, h]
theorem e_clone_Answer (l : List Answer) (hl : l.length ≤ 1048577) : runFn T n (d + 1) 145 [.dat (encAnss l)] [] = some (acell 0 l, ablk l) := by
 rw [runFn_succ]
 have h := lim_le hl
 cases l with
 | nil => simp [T, xn_slices_Clone_Answer_Answer, cloneNv, acell, ablk]
 | cons x r => simp at h; simp [T, xn_slices_Clone_Answer_Answer, cloneNv, acell, ablk, h]
abbrev boxT (s : State) (b a : AV) : Blk := .box [.dat (di s.self), .dat (di s.status), .dat (di s.view), .dat (di s.last), .dat (encLog s.log), .dat (di s.commit), .dat (encV s.vector), .dat (di s.idle), .dat (encAcks s.acks), .dat (encMarks s.marks), b, a]
abbrev boxZ : Blk := .box [.dat (di 0), .dat (di 0), .dat (di 0), .dat (di 0), .nil 50 5 true, .dat (di 0), .nil 26 2 true, .dat (di 0), .nil 123 4 true, .nil 125 3 true, .nil 98 6 false, .nil 100 6 false]
theorem set_map {α : Type} (f : α → Dat) (l : List α) (i : Nat) (h : i < l.length) : (l.map f).set i (f l[i]) = l.map f := by
 have : (l.map f)[i]'(by simpa using h) = f l[i] := by simp
 rw [← this, List.set_getElem_self]
def S_tw0 (s : State) (i : Nat) : St := ⟨[(1, .ptr 0 0), (2, .ptr (1 + (bblk s.ballots).length) 0), (27, .dat (di s.ballots.length)), (28, .dat (di i))], boxT s (bcell 1 s.ballots) (.dat (encAnss s.answers)) :: (bblk s.ballots ++ [boxZ])⟩
theorem l_core_twin0 (s : State) (hs : Small s) (hn : 1048577 < n) : loopAt (XCode.run (runFn T n (d + 1)) n 0 xf_core_twin_b0) (headOf 0 xf_core_twin_k0) n (S_tw0 s 0) = some (.exit 0, ⟨[(1, .ptr 0 0), (2, .ptr (1 + (bblk s.ballots).length) 0)], (S_tw0 s 0).H⟩) := by
 have hl := hs.ballots
 refine loop_for (S_tw0 s) s.ballots.length _ (fun i hi => nextK_some ?_) ?_ (fun s h => by simp at h) n (by omega)
 ·have hi' : (i : Int) < s.ballots.length := by omega
  have hw := wrap_i i (by omega)
  have hc := e_clone_Entry (n := n) (d := d) s.ballots[i].log (hs.blogs _ (List.getElem_mem hi))
  have hne : ¬ s.ballots = [] := fun h => by rw [h] at hi; simp at hi
  have hset := set_map encBal s.ballots i hi
  simp [xf_core_twin_b0, xf_core_twin_k0, S_tw0, bcell, bblk, hne, hi, hi', hw, hc, hset]
 ·by_cases hb : s.ballots = []
  ·simp [xf_core_twin_b0, S_tw0, bcell, bblk, hb]
  ·simp [xf_core_twin_b0, S_tw0, bcell, bblk, hb]
def S_tw1 (s : State) (i : Nat) : St := ⟨[(1, .ptr 0 0), (2, .ptr (1 + (bblk s.ballots).length + (ablk s.answers).length) 0), (50, .dat (di s.answers.length)), (51, .dat (di i))], boxT s (bcell 1 s.ballots) (acell (1 + (bblk s.ballots).length) s.answers) :: (bblk s.ballots ++ (ablk s.answers ++ [boxZ]))⟩
theorem l_core_twin1 (s : State) (hs : Small s) (hn : 1048577 < n) : loopAt (XCode.run (runFn T n (d + 1)) n 0 xf_core_twin_b1) (headOf 0 xf_core_twin_k1) n (S_tw1 s 0) = some (.exit 2, ⟨[(1, .ptr 0 0), (2, .ptr (1 + (bblk s.ballots).length + (ablk s.answers).length) 0)], (S_tw1 s 0).H⟩) := by
 have hl := hs.answers
 refine loop_for (S_tw1 s) s.answers.length _ (fun i hi => nextK_some ?_) ?_ (fun s h => by simp at h) n (by omega)
 ·have hi' : (i : Int) < s.answers.length := by omega
  have hw := wrap_i i (by omega)
  have hc := e_clone_Entry (n := n) (d := d) s.answers[i].log (hs.alogs _ (List.getElem_mem hi))
  have hne : ¬ s.answers = [] := fun h => by rw [h] at hi; simp at hi
  have hset := set_map encAns s.answers i hi
  by_cases hb : s.ballots = []
  ·simp [xf_core_twin_b1, xf_core_twin_k1, S_tw1, bcell, bblk, acell, ablk, hb, hne, hi, hi', hw, hc, hset]
  ·simp [xf_core_twin_b1, xf_core_twin_k1, S_tw1, bcell, bblk, acell, ablk, hb, hne, hi, hi', hw, hc, hset]
 ·by_cases hb : s.ballots = []
  ·by_cases ha : s.answers = []
   ·simp [xf_core_twin_b1, S_tw1, bcell, bblk, acell, ablk, hb, ha]
   ·simp [xf_core_twin_b1, S_tw1, bcell, bblk, acell, ablk, hb, ha]
  ·by_cases ha : s.answers = []
   ·simp [xf_core_twin_b1, S_tw1, bcell, bblk, acell, ablk, hb, ha]
   ·simp [xf_core_twin_b1, S_tw1, bcell, bblk, acell, ablk, hb, ha]
theorem bsplit (s : State) : (s.ballots = [] ∧ s.ballots.length = 0 ∧ (∀ j, bcell j s.ballots = .nil 98 6 false) ∧ bblk s.ballots = []) ∨ (s.ballots ≠ [] ∧ 0 < s.ballots.length ∧ (∀ j, bcell j s.ballots = .own j 0 s.ballots.length) ∧ bblk s.ballots = [.arr 98 6 false false (s.ballots.map encBal)]) := by
 by_cases hb : s.ballots = []
 ·exact .inl ⟨hb, by simp [hb], fun j => by simp [bcell, hb], by simp [bblk, hb]⟩
 ·exact .inr ⟨hb, List.length_pos_iff.2 hb, fun j => by simp [bcell, hb], by simp [bblk, hb]⟩
theorem asplit (s : State) : (s.answers = [] ∧ s.answers.length = 0 ∧ (∀ j, acell j s.answers = .nil 100 6 false) ∧ ablk s.answers = []) ∨ (s.answers ≠ [] ∧ 0 < s.answers.length ∧ (∀ j, acell j s.answers = .own j 0 s.answers.length) ∧ ablk s.answers = [.arr 100 6 false false (s.answers.map encAns)]) := by
 by_cases hb : s.answers = []
 ·exact .inl ⟨hb, by simp [hb], fun j => by simp [acell, hb], by simp [ablk, hb]⟩
 ·exact .inr ⟨hb, List.length_pos_iff.2 hb, fun j => by simp [acell, hb], by simp [ablk, hb]⟩
theorem e_core_twin (s : State) (hs : Small s) (hn : 1048577 < n) : runFn T n (d + 2) 113 [.dat (encS s)] [] = some (.dat (encS s), []) := by
 have h0 := l_core_twin0 (d := d) s hs hn
 have h1 := l_core_twin1 (d := d) s hs hn
 have c1 := e_clone_Entry (n := n) (d := d) s.log hs.log
 have c2 := e_clone_Vector (n := n) (d := d) s.vector hs.vector
 have c3 := e_clone_Ack (n := n) (d := d) s.acks hs.acks
 have c4 := e_clone_Mark (n := n) (d := d) s.marks hs.marks
 have c5 := e_clone_Ballot (n := n) (d := d) s.ballots hs.ballots
 have c6 := e_clone_Answer (n := n) (d := d) s.answers hs.answers
 simp only [S_tw0, S_tw1, xf_core_twin_k0, xf_core_twin_k1] at h0 h1
 rw [runFn_succ]
 rcases bsplit s with ⟨z1, y1, b1, b2⟩ | ⟨z1, y1, b1, b2⟩ <;> rcases asplit s with ⟨z2, y2, a1, a2⟩ | ⟨z2, y2, a1, a2⟩ <;> simp only [b1, b2, a1, a2, y1, y2] at c5 c6 h0 h1 <;> simp at h0 h1 <;>
  simp [T, xf_core_twin, xf_core_twin_k0, xf_core_twin_k1, c1, c2, c3, c4, c5, c6, h0, h1] <;> (try simp [z1, z2])
end Go.Ax
namespace Go.Ax
set_option linter.all false
variable {n d : Nat}
set_option maxRecDepth 10000
set_option maxHeartbeats 4000000
def zeroS : State := ⟨0, 0, 0, 0, [], 0, [], 0, [], [], [], []⟩
def still (c : Cfg) (s : State) : Bool := decide (s.status = 3) || decide (s.status = 1) && leads c s
def waitS (c : Cfg) (s : State) : State := if stateErr c s ≠ 0 then zeroS else if still c s then s else if s.idle + 1 < c.patience then { s with idle := s.idle + 1 } else { s with idle := 0 }
def waitB (c : Cfg) (s : State) : Bool := if stateErr c s ≠ 0 then false else if still c s then false else if s.idle + 1 < c.patience then false else true
theorem ok_of_err {c : Cfg} {s : State} (h : stateErr c s = 0) : cfgOk c ∧ headOff c s = false ∧ logOk c s.log s.commit = true := by
 unfold stateErr at h
 by_cases hc : cfgOk c
 ·rw [if_pos hc] at h
  cases hr : stateOk c s
  ·rw [hr] at h; simp at h
  ·unfold stateOk at hr
   simp at hr
   exact ⟨hc, hr.1.1.1, hr.1.1.2⟩
 ·rw [if_neg hc] at h; simp at h
theorem e_core_Wait (c : Cfg) (s : State) (hs : Small s) (hn : 1048577 < n) : runFn T n (d + 6) 76 [.dat (encCfg c), .dat (encS s)] [] = some (.tup [.dat (encS (waitS c s)), .dat (.bool (waitB c s)), .dat (di (stateErr c s))], []) := by
 have h1 := e_core_Check (n := n) (d := d) c s hs hn
 have h2 := e_core_twin (n := n) (d := d + 3) s hs hn
 rw [runFn_succ]
 unfold waitS waitB
 by_cases he : stateErr c s = 0
 ·obtain ⟨hc, hh, _⟩ := ok_of_err he
  have h3 := e_core_leads (n := n) (d := d + 4) c s hc
  rw [he] at h1 ⊢
  simp only [ne_eq, not_true_eq_false, if_false]
  have hi : 0 ≤ s.idle ∧ s.idle < c.patience := by simp [headOff] at hh; omega
  have hp : c.patience ≤ 100 := by unfold cfgOk at hc; omega
  have hw := wrap_small (x := s.idle + 1) (by omega)
  unfold still
  by_cases s3 : s.status = 3
  ·have s3' := eq_true s3
   simp [T, xf_core_Wait, h1, h2, s3']
  ·have s3' := eq_false s3
   by_cases s1 : s.status = 1
   ·have s1' := eq_true s1
    cases hl : leads c s
    ·rw [hl] at h3
     by_cases hq : s.idle + 1 < c.patience
     ·simp [T, xf_core_Wait, h1, h2, h3, s3', s1', hw, hq]
     ·simp [T, xf_core_Wait, h1, h2, h3, s3', s1', hw, hq]
    ·rw [hl] at h3
     simp [T, xf_core_Wait, h1, h2, h3, s3', s1']
   ·have s1' := eq_false s1
    by_cases hq : s.idle + 1 < c.patience
    ·simp [T, xf_core_Wait, h1, h2, h3, s3', s1', hw, hq]
    ·simp [T, xf_core_Wait, h1, h2, h3, s3', s1', hw, hq]
 ·simp [T, xf_core_Wait, h1, he, zeroS]
end Go.Ax
