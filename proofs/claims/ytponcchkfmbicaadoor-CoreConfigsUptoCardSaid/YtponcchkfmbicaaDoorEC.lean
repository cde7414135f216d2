/-
  Which states may be.
-/
import Derived.Test.YtponcchkfmbicaaDoorEA
namespace Go.Ax
set_option linter.all false
variable {n d : Nat}
set_option maxRecDepth 10000
set_option linter.unusedSimpArgs false
set_option maxHeartbeats 4000000

def headOff (c : Cfg) (s : State) : Bool := decide (s.self < 0) || decide (nodesOf c ≤ s.self) || decide (s.view < 0) || decide (4294967296 < s.view) || decide (s.last < 0) || decide (s.view < s.last) || decide (s.idle < 0) || decide (c.patience ≤ s.idle) || !decide (↑s.vector.length = nodesOf c)
def bodyOk (c : Cfg) (s : State) : Bool := if s.status = 1 then normalOk c s else if s.status = 2 then changingOk c s else if s.status = 3 then recoverOk c s else false
def stateOk (c : Cfg) (s : State) : Bool := !headOff c s && logOk c s.log s.commit && votedOk s && bodyOk c s
def stateErr (c : Cfg) (s : State) : Int := if cfgOk c then (if stateOk c s then 0 else 2) else 1
theorem head_self {c : Cfg} {s : State} (h : headOff c s = false) : 0 ≤ s.self ∧ s.self < s.vector.length := by
  simp [headOff] at h
  omega
theorem e_core_Check (c : Cfg) (s : State) (hs : Small s) (hn : 1048577 < n) : runFn T n (d + 5) 18 [.dat (encCfg c), .dat (encS s)] [] = some (.dat (di (stateErr c s)), []) := by
  have h1 := e_core_CheckConfig (n := n) (d := d + 3) c
  have h2 := e_core_Nodes (n := n) (d := d + 2) c
  have h3 := e_core_logged (n := n) (d := d + 2) c s.log s.commit hs.log
  have h4 := e_core_voted (n := n) (d := d + 2) s hs hn
  rw [runFn_succ]
  unfold stateErr
  by_cases hc : cfgOk c
  · rw [if_pos hc] at h1 ⊢
    unfold stateOk
    cases hb : headOff c s
    · have hself := head_self hb
      unfold headOff at hb
      cases hl : logOk c s.log s.commit
      · rw [hl] at h3
        simp [T, xf_core_Check, h1, h2, h3, hb]
      · rw [hl] at h3
        cases hv : votedOk s
        · rw [hv] at h4
          simp [T, xf_core_Check, h1, h2, h3, h4, hb]
        · rw [hv] at h4
          unfold bodyOk
          by_cases s1 : s.status = 1
          · have h5 := e_core_normal (n := n) (d := d + 2) c s hc hs hn
            rw [if_pos s1]
            have s1' := eq_true s1
            cases hr : normalOk c s <;> rw [hr] at h5 <;> simp [T, xf_core_Check, h1, h2, h3, h4, h5, hb, s1']
          · have s1' := eq_false s1
            rw [if_neg s1]
            by_cases s2 : s.status = 2
            · have h5 := e_core_changing (n := n) (d := d + 1) c s hc hs hn
              rw [if_pos s2]
              have s2' := eq_true s2
              cases hr : changingOk c s <;> rw [hr] at h5 <;> simp [T, xf_core_Check, h1, h2, h3, h4, h5, hb, s1', s2']
            · have s2' := eq_false s2
              rw [if_neg s2]
              by_cases s3 : s.status = 3
              · have h5 := e_core_recovering (n := n) (d := d) c s hs hself hn
                rw [if_pos s3]
                have s3' := eq_true s3
                cases hr : recoverOk c s <;> rw [hr] at h5 <;> simp [T, xf_core_Check, h1, h2, h3, h4, h5, hb, s1', s2', s3']
              · have s3' := eq_false s3
                rw [if_neg s3]
                simp [T, xf_core_Check, h1, h2, h3, h4, hb, s1', s2', s3']
    · unfold headOff at hb
      simp [T, xf_core_Check, h1, h2, hb]
  · rw [if_neg hc] at h1 ⊢
    simp [T, xf_core_Check, h1]

end Go.Ax

namespace Go.Ax
set_option linter.all false
variable {n d : Nat}
set_option maxRecDepth 10000
set_option linter.unusedSimpArgs false
set_option maxHeartbeats 4000000

def S_m0 (s : State) (i : Nat) : St := ⟨[(3, .ptr 0 0), (7, .dat (di i))], [boxS s]⟩
def S_m1 (c : Cfg) (s : State) (i : Nat) : St := ⟨[(2, .ptr 0 0), (3, .ptr 1 0), (8, .dat (di i))], [boxC c, boxS s]⟩
def S_rr (c : Cfg) (s : State) (i : Nat) : St := ⟨[(2, .dat (di (nodesOf c))), (3, .ptr 0 0), (4, .ptr 1 0), (7, .dat (di i))], [boxC c, boxS s]⟩
end Go.Ax

namespace Go.Ax
set_option linter.all false
variable {n d : Nat}
set_option maxRecDepth 10000
set_option linter.unusedSimpArgs false
set_option maxHeartbeats 4000000

theorem sum2 {α β : Type} (a : List α) (b : List β) : decide ((0 : Int) < (a.length : Int) + b.length) = !(a.isEmpty && b.isEmpty) := by
  cases a <;> cases b <;> simp <;> omega
theorem sum3 {α β γ : Type} (a : List α) (b : List β) (c : List γ) : decide ((0 : Int) < (a.length : Int) + b.length + c.length) = !(a.isEmpty && b.isEmpty && c.isEmpty) := by
  cases a <;> cases b <;> cases c <;> simp <;> omega
end Go.Ax

namespace Go.Ax
set_option linter.all false
variable {n d : Nat}
set_option maxRecDepth 10000
set_option linter.unusedSimpArgs false
set_option maxHeartbeats 4000000

theorem lim_le {k : Nat} (h : k ≤ 1048577) : k ≤ LIM := by simp only [LIM]; omega
theorem e_clone_Entry (l : List Ent) (hl : l.length ≤ 1048577) : runFn T n (d + 1) 60 [.dat (encLog l)] [] = some (.dat (encLog l), []) := by
  rw [runFn_succ]
  simp [T, xn_slices_Clone_Entry_Entry, cloneNv, lim_le hl]
theorem e_clone_Vector (l : List Draw) (hl : l.length ≤ 1048577) : runFn T n (d + 1) 61 [.dat (encV l)] [] = some (.dat (encV l), []) := by
  rw [runFn_succ]
  simp [T, xn_slices_Clone_Vector_Draw, cloneNv, lim_le hl]
theorem e_clone_Ack (l : List Ack) (hl : l.length ≤ 1048577) : runFn T n (d + 1) 62 [.dat (encAcks l)] [] = some (.dat (encAcks l), []) := by
  rw [runFn_succ]
  simp [T, xn_slices_Clone_Ack_Ack, cloneNv, lim_le hl]
theorem e_clone_Mark (l : List Mark) (hl : l.length ≤ 1048577) : runFn T n (d + 1) 63 [.dat (encMarks l)] [] = some (.dat (encMarks l), []) := by
  rw [runFn_succ]
  simp [T, xn_slices_Clone_Mark_Mark, cloneNv, lim_le hl]
def bcell (j : Nat) (l : List Ballot) : AV := if l = [] then .nil 115 6 false else .own j 0 l.length
def bblk (l : List Ballot) : List Blk := if l = [] then [] else [.arr 115 6 false false (l.map encBal)]
def acell (j : Nat) (l : List Answer) : AV := if l = [] then .nil 117 6 false else .own j 0 l.length
def ablk (l : List Answer) : List Blk := if l = [] then [] else [.arr 117 6 false false (l.map encAns)]
theorem e_clone_Ballot (l : List Ballot) (hl : l.length ≤ 1048577) : runFn T n (d + 1) 64 [.dat (encBals l)] [] = some (bcell 0 l, bblk l) := by
  rw [runFn_succ]
  have h := lim_le hl
  cases l with
  | nil => simp [T, xn_slices_Clone_Ballot_Ballot, cloneNv, bcell, bblk]
  | cons x r => simp at h; simp [T, xn_slices_Clone_Ballot_Ballot, cloneNv, bcell, bblk, h]
theorem e_clone_Answer (l : List Answer) (hl : l.length ≤ 1048577) : runFn T n (d + 1) 65 [.dat (encAnss l)] [] = some (acell 0 l, ablk l) := by
  rw [runFn_succ]
  have h := lim_le hl
  cases l with
  | nil => simp [T, xn_slices_Clone_Answer_Answer, cloneNv, acell, ablk]
  | cons x r => simp at h; simp [T, xn_slices_Clone_Answer_Answer, cloneNv, acell, ablk, h]

abbrev boxT (s : State) (b a : AV) : Blk := .box [.dat (di s.self), .dat (di s.status), .dat (di s.view), .dat (di s.last), .dat (encLog s.log), .dat (di s.commit), .dat (encV s.vector), .dat (di s.idle), .dat (encAcks s.acks), .dat (encMarks s.marks), b, a]
abbrev boxZ : Blk := .box [.dat (di 0), .dat (di 0), .dat (di 0), .dat (di 0), .nil 55 5 true, .dat (di 0), .nil 26 2 true, .dat (di 0), .nil 111 4 true, .nil 113 3 true, .nil 115 6 false, .nil 117 6 false]
theorem set_map {α : Type} (f : α → Dat) (l : List α) (i : Nat) (h : i < l.length) : (l.map f).set i (f l[i]) = l.map f := by
  have : (l.map f)[i]'(by simpa using h) = f l[i] := by simp
  rw [← this, List.set_getElem_self]
def S_tw0 (s : State) (i : Nat) : St := ⟨[(1, .ptr 0 0), (2, .ptr (1 + (bblk s.ballots).length) 0), (27, .dat (di s.ballots.length)), (28, .dat (di i))], boxT s (bcell 1 s.ballots) (.dat (encAnss s.answers)) :: (bblk s.ballots ++ [boxZ])⟩
theorem l_core_twin0 (s : State) (hs : Small s) (hn : 1048577 < n) : loopAt (XCode.run (runFn T n (d + 1)) n 0 xf_core_twin_b0) (headOf 0 xf_core_twin_k0) n (S_tw0 s 0) = some (.exit 0, ⟨[(1, .ptr 0 0), (2, .ptr (1 + (bblk s.ballots).length) 0)], (S_tw0 s 0).H⟩) := by
  have hl := hs.ballots
  refine loop_for (S_tw0 s) s.ballots.length _ (fun i hi => nextK_some ?_) ?_ (fun s h => by simp at h) n (by omega)
  · have hi' : (i : Int) < s.ballots.length := by omega
    have hw := wrap_i i (by omega)
    have hc := e_clone_Entry (n := n) (d := d) s.ballots[i].log (hs.blogs _ (List.getElem_mem hi))
    have hne : ¬ s.ballots = [] := fun h => by rw [h] at hi; simp at hi
    have hset := set_map encBal s.ballots i hi
    simp [xf_core_twin_b0, xf_core_twin_k0, S_tw0, bcell, bblk, hne, hi, hi', hw, hc, hset]
  · by_cases hb : s.ballots = []
    · simp [xf_core_twin_b0, S_tw0, bcell, bblk, hb]
    · simp [xf_core_twin_b0, S_tw0, bcell, bblk, hb]
def S_tw1 (s : State) (i : Nat) : St := ⟨[(1, .ptr 0 0), (2, .ptr (1 + (bblk s.ballots).length + (ablk s.answers).length) 0), (50, .dat (di s.answers.length)), (51, .dat (di i))], boxT s (bcell 1 s.ballots) (acell (1 + (bblk s.ballots).length) s.answers) :: (bblk s.ballots ++ (ablk s.answers ++ [boxZ]))⟩
theorem l_core_twin1 (s : State) (hs : Small s) (hn : 1048577 < n) : loopAt (XCode.run (runFn T n (d + 1)) n 0 xf_core_twin_b1) (headOf 0 xf_core_twin_k1) n (S_tw1 s 0) = some (.exit 2, ⟨[(1, .ptr 0 0), (2, .ptr (1 + (bblk s.ballots).length + (ablk s.answers).length) 0)], (S_tw1 s 0).H⟩) := by
  have hl := hs.answers
  refine loop_for (S_tw1 s) s.answers.length _ (fun i hi => nextK_some ?_) ?_ (fun s h => by simp at h) n (by omega)
  · have hi' : (i : Int) < s.answers.length := by omega
    have hw := wrap_i i (by omega)
    have hc := e_clone_Entry (n := n) (d := d) s.answers[i].log (hs.alogs _ (List.getElem_mem hi))
    have hne : ¬ s.answers = [] := fun h => by rw [h] at hi; simp at hi
    have hset := set_map encAns s.answers i hi
    by_cases hb : s.ballots = []
    · simp [xf_core_twin_b1, xf_core_twin_k1, S_tw1, bcell, bblk, acell, ablk, hb, hne, hi, hi', hw, hc, hset]
    · simp [xf_core_twin_b1, xf_core_twin_k1, S_tw1, bcell, bblk, acell, ablk, hb, hne, hi, hi', hw, hc, hset]
  · by_cases hb : s.ballots = []
    · by_cases ha : s.answers = []
      · simp [xf_core_twin_b1, S_tw1, bcell, bblk, acell, ablk, hb, ha]
      · simp [xf_core_twin_b1, S_tw1, bcell, bblk, acell, ablk, hb, ha]
    · by_cases ha : s.answers = []
      · simp [xf_core_twin_b1, S_tw1, bcell, bblk, acell, ablk, hb, ha]
      · simp [xf_core_twin_b1, S_tw1, bcell, bblk, acell, ablk, hb, ha]
theorem bsplit (s : State) : (s.ballots = [] ∧ s.ballots.length = 0 ∧ (∀ j, bcell j s.ballots = .nil 115 6 false) ∧ bblk s.ballots = []) ∨ (s.ballots ≠ [] ∧ 0 < s.ballots.length ∧ (∀ j, bcell j s.ballots = .own j 0 s.ballots.length) ∧ bblk s.ballots = [.arr 115 6 false false (s.ballots.map encBal)]) := by
  by_cases hb : s.ballots = []
  · exact .inl ⟨hb, by simp [hb], fun j => by simp [bcell, hb], by simp [bblk, hb]⟩
  · exact .inr ⟨hb, List.length_pos_iff.2 hb, fun j => by simp [bcell, hb], by simp [bblk, hb]⟩
theorem asplit (s : State) : (s.answers = [] ∧ s.answers.length = 0 ∧ (∀ j, acell j s.answers = .nil 117 6 false) ∧ ablk s.answers = []) ∨ (s.answers ≠ [] ∧ 0 < s.answers.length ∧ (∀ j, acell j s.answers = .own j 0 s.answers.length) ∧ ablk s.answers = [.arr 117 6 false false (s.answers.map encAns)]) := by
  by_cases hb : s.answers = []
  · exact .inl ⟨hb, by simp [hb], fun j => by simp [acell, hb], by simp [ablk, hb]⟩
  · exact .inr ⟨hb, List.length_pos_iff.2 hb, fun j => by simp [acell, hb], by simp [ablk, hb]⟩
theorem e_core_twin (s : State) (hs : Small s) (hn : 1048577 < n) : runFn T n (d + 2) 40 [.dat (encS s)] [] = some (.dat (encS s), []) := by
  have h0 := l_core_twin0 (d := d) s hs hn
  have h1 := l_core_twin1 (d := d) s hs hn
  have c1 := e_clone_Entry (n := n) (d := d) s.log hs.log
  have c2 := e_clone_Vector (n := n) (d := d) s.vector hs.vector
  have c3 := e_clone_Ack (n := n) (d := d) s.acks hs.acks
  have c4 := e_clone_Mark (n := n) (d := d) s.marks hs.marks
  have c5 := e_clone_Ballot (n := n) (d := d) s.ballots hs.ballots
  have c6 := e_clone_Answer (n := n) (d := d) s.answers hs.answers
  simp only [S_tw0, S_tw1, xf_core_twin_k0, xf_core_twin_k1] at h0 h1
  rw [runFn_succ]
  rcases bsplit s with ⟨z1, y1, b1, b2⟩ | ⟨z1, y1, b1, b2⟩ <;> rcases asplit s with ⟨z2, y2, a1, a2⟩ | ⟨z2, y2, a1, a2⟩ <;> simp only [b1, b2, a1, a2, y1, y2] at c5 c6 h0 h1 <;> simp at h0 h1 <;>
    simp [T, xf_core_twin, xf_core_twin_k0, xf_core_twin_k1, c1, c2, c3, c4, c5, c6, h0, h1] <;> (try simp [z1, z2])
end Go.Ax

namespace Go.Ax
set_option linter.all false
variable {n d : Nat}
set_option maxRecDepth 10000
set_option linter.unusedSimpArgs false
set_option maxHeartbeats 4000000

def zeroS : State := ⟨0, 0, 0, 0, [], 0, [], 0, [], [], [], []⟩
def still (c : Cfg) (s : State) : Bool := decide (s.status = 3) || decide (s.status = 1) && leads c s
def waitS (c : Cfg) (s : State) : State := if stateErr c s ≠ 0 then zeroS else if still c s then s else if s.idle + 1 < c.patience then { s with idle := s.idle + 1 } else { s with idle := 0 }
def waitB (c : Cfg) (s : State) : Bool := if stateErr c s ≠ 0 then false else if still c s then false else if s.idle + 1 < c.patience then false else true
theorem ok_of_err {c : Cfg} {s : State} (h : stateErr c s = 0) : cfgOk c ∧ headOff c s = false ∧ logOk c s.log s.commit = true := by
  unfold stateErr at h
  by_cases hc : cfgOk c
  · rw [if_pos hc] at h
    cases hr : stateOk c s
    · rw [hr] at h; simp at h
    · unfold stateOk at hr
      simp at hr
      exact ⟨hc, hr.1.1.1, hr.1.1.2⟩
  · rw [if_neg hc] at h; simp at h
theorem e_core_Wait (c : Cfg) (s : State) (hs : Small s) (hn : 1048577 < n) : runFn T n (d + 6) 20 [.dat (encCfg c), .dat (encS s)] [] = some (.tup [.dat (encS (waitS c s)), .dat (.bool (waitB c s)), .dat (di (stateErr c s))], []) := by
  have h1 := e_core_Check (n := n) (d := d) c s hs hn
  have h2 := e_core_twin (n := n) (d := d + 3) s hs hn
  rw [runFn_succ]
  unfold waitS waitB
  by_cases he : stateErr c s = 0
  · obtain ⟨hc, hh, _⟩ := ok_of_err he
    have h3 := e_core_leads (n := n) (d := d + 4) c s hc
    rw [he] at h1 ⊢
    simp only [ne_eq, not_true_eq_false, if_false]
    have hi : 0 ≤ s.idle ∧ s.idle < c.patience := by simp [headOff] at hh; omega
    have hp : c.patience ≤ 100 := by unfold cfgOk at hc; omega
    have hw := wrap_small (x := s.idle + 1) (by omega)
    unfold still
    by_cases s3 : s.status = 3
    · have s3' := eq_true s3
      simp [T, xf_core_Wait, h1, h2, s3']
    · have s3' := eq_false s3
      by_cases s1 : s.status = 1
      · have s1' := eq_true s1
        cases hl : leads c s
        · rw [hl] at h3
          by_cases hq : s.idle + 1 < c.patience
          · simp [T, xf_core_Wait, h1, h2, h3, s3', s1', hw, hq]
          · simp [T, xf_core_Wait, h1, h2, h3, s3', s1', hw, hq]
        · rw [hl] at h3
          simp [T, xf_core_Wait, h1, h2, h3, s3', s1']
      · have s1' := eq_false s1
        by_cases hq : s.idle + 1 < c.patience
        · simp [T, xf_core_Wait, h1, h2, h3, s3', s1', hw, hq]
        · simp [T, xf_core_Wait, h1, h2, h3, s3', s1', hw, hq]
  · simp [T, xf_core_Wait, h1, he, zeroS]

end Go.Ax
