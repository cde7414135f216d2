/-
  Who has voted.
-/
import Derived.Test.YtponcchkfmbicaaEA
namespace Go.Ax
set_option linter.all false
variable {n d : Nat}
set_option maxRecDepth 10000
set_option linter.unusedSimpArgs false

def vcell : Nat → List Mark → AV
  | _, [] => .nil 138 3 true
  | j, _ :: r => .own j 0 (r.length + 1)
def vblk : List Mark → List Blk
  | [] => []
  | x :: r => [.arr 138 3 true false (encMark x :: r.map encMark)]
abbrev vnils : Blk := .box [.nil 138 3 true, .nil 138 3 true, .nil 138 3 true, .nil 138 3 true]
def vcells (j : Nat) (a b c e : List Mark) : List AV := [vcell j a, vcell (j + (vblk a).length) b, vcell (j + (vblk a).length + (vblk b).length) c, vcell (j + (vblk a).length + (vblk b).length + (vblk c).length) e]
def vheap (a b c e : List Mark) : List Blk := vblk a ++ vblk b ++ vblk c ++ vblk e

def ackM (a : Ack) : Mark := ⟨a.node, a.draw⟩
def balM (a : Ballot) : Mark := ⟨a.node, a.draw⟩
def ansM (a : Answer) : Mark := ⟨a.node, a.draw⟩

theorem wrap1 : IntKind.wrap .i64 1 = 1 := by decide
def S_vot0 (s : State)  (p : List Ack) : St := ⟨[(1, .ptr 0 0), (2, .ptr 1 0), (3, .ptr 2 0), (13, .dat (encAcks s.acks)), (14, .dat (di s.acks.length)), (15, .dat (di p.length))], boxS s :: vnils :: .box (vcells 3  (p.map ackM) [] [] []) :: vheap  (p.map ackM) [] [] []⟩
theorem l_core_voters0 (cf : CallF) (s : State) (hs : Small s) (hn : 1048577 < n)  :
    loopAt (XCode.run cf n 0 xf_core_voters_b0) (headOf 0 xf_core_voters_k0) n (S_vot0 s []) = some (.exit 0, ⟨[(1, .ptr 0 0), (2, .ptr 1 0), (3, .ptr 2 0)], (S_vot0 s s.acks).H⟩) := by
  have hl := hs.acks
  refine loop_pre (S_vot0 s) s.acks _ (fun p v r hl => ?_) ?_ (fun s h => by simp at h) n (by omega)
  · have hx : (p.length : Int) < p.length + (r.length + 1) := by omega
    have hp : p.length ≤ 1048577 := by have : s.acks.length = p.length + (r.length + 1) := by simp [hl]
                                       omega
    have hw := wrap_i p.length (by omega)
    have hL : p.length + 1 ≤ LIM := by simp only [LIM]; omega
    cases p with
    | nil => simp [xf_core_voters_b0, xf_core_voters_k0, S_vot0, vcells, vcell, vheap, vblk, ackM, hl, hx, wrap1]
    | cons x p =>
      simp at hw hL hx
      (simp [xf_core_voters_b0, xf_core_voters_k0, S_vot0, vcells, vcell, vheap, vblk, ackM, hl, hw, hL, hx]; omega)
  · cases h : s.acks <;> simp [xf_core_voters_b0, S_vot0, vcells, vcell, vheap, vblk, ackM, h]

def S_vot1 (s : State) (m0 : List Mark) (p : List Mark) : St := ⟨[(1, .ptr 0 0), (2, .ptr 1 0), (3, .ptr 2 0), (31, .dat (encMarks s.marks)), (32, .dat (di s.marks.length)), (33, .dat (di p.length))], boxS s :: vnils :: .box (vcells 3 m0 (p.map id) [] []) :: vheap m0 (p.map id) [] []⟩
theorem l_core_voters1 (cf : CallF) (s : State) (hs : Small s) (hn : 1048577 < n) (m0 : List Mark) :
    loopAt (XCode.run cf n 0 xf_core_voters_b1) (headOf 0 xf_core_voters_k1) n (S_vot1 s m0 []) = some (.exit 2, ⟨[(1, .ptr 0 0), (2, .ptr 1 0), (3, .ptr 2 0)], (S_vot1 s m0 s.marks).H⟩) := by
  have hl := hs.marks
  refine loop_pre (S_vot1 s m0) s.marks _ (fun p v r hl => ?_) ?_ (fun s h => by simp at h) n (by omega)
  · have hx : (p.length : Int) < p.length + (r.length + 1) := by omega
    have hp : p.length ≤ 1048577 := by have : s.marks.length = p.length + (r.length + 1) := by simp [hl]
                                       omega
    have hw := wrap_i p.length (by omega)
    have hL : p.length + 1 ≤ LIM := by simp only [LIM]; omega
    cases p with
    | nil => cases m0 <;> simp [xf_core_voters_b1, xf_core_voters_k1, S_vot1, vcells, vcell, vheap, vblk, id, hl, hx, wrap1]
    | cons x p =>
      simp at hw hL hx
      cases m0 <;> (simp [xf_core_voters_b1, xf_core_voters_k1, S_vot1, vcells, vcell, vheap, vblk, id, hl, hw, hL, hx]; omega)
  · cases h : s.marks <;> cases m0 <;> simp [xf_core_voters_b1, S_vot1, vcells, vcell, vheap, vblk, id, h]

def S_vot2 (s : State) (m0 : List Mark) (m1 : List Mark) (p : List Ballot) : St := ⟨[(1, .ptr 0 0), (2, .ptr 1 0), (3, .ptr 2 0), (49, .dat (encBals s.ballots)), (50, .dat (di s.ballots.length)), (51, .dat (di p.length))], boxS s :: vnils :: .box (vcells 3 m0 m1 (p.map balM) []) :: vheap m0 m1 (p.map balM) []⟩
theorem l_core_voters2 (cf : CallF) (s : State) (hs : Small s) (hn : 1048577 < n) (m0 : List Mark) (m1 : List Mark) :
    loopAt (XCode.run cf n 0 xf_core_voters_b2) (headOf 0 xf_core_voters_k2) n (S_vot2 s m0 m1 []) = some (.exit 4, ⟨[(1, .ptr 0 0), (2, .ptr 1 0), (3, .ptr 2 0)], (S_vot2 s m0 m1 s.ballots).H⟩) := by
  have hl := hs.ballots
  refine loop_pre (S_vot2 s m0 m1) s.ballots _ (fun p v r hl => ?_) ?_ (fun s h => by simp at h) n (by omega)
  · have hx : (p.length : Int) < p.length + (r.length + 1) := by omega
    have hp : p.length ≤ 1048577 := by have : s.ballots.length = p.length + (r.length + 1) := by simp [hl]
                                       omega
    have hw := wrap_i p.length (by omega)
    have hL : p.length + 1 ≤ LIM := by simp only [LIM]; omega
    cases p with
    | nil => cases m0 <;> cases m1 <;> simp [xf_core_voters_b2, xf_core_voters_k2, S_vot2, vcells, vcell, vheap, vblk, balM, hl, hx, wrap1]
    | cons x p =>
      simp at hw hL hx
      cases m0 <;> cases m1 <;> (simp [xf_core_voters_b2, xf_core_voters_k2, S_vot2, vcells, vcell, vheap, vblk, balM, hl, hw, hL, hx]; omega)
  · cases h : s.ballots <;> cases m0 <;> cases m1 <;> simp [xf_core_voters_b2, S_vot2, vcells, vcell, vheap, vblk, balM, h]

def S_vot3 (s : State) (m0 : List Mark) (m1 : List Mark) (m2 : List Mark) (p : List Answer) : St := ⟨[(2, .ptr 0 0), (3, .ptr 1 0), (67, .dat (encAnss s.answers)), (68, .dat (di s.answers.length)), (69, .dat (di p.length))], vnils :: .box (vcells 2 m0 m1 m2 (p.map ansM) ) :: vheap m0 m1 m2 (p.map ansM) ⟩
theorem l_core_voters3 (cf : CallF) (s : State) (hs : Small s) (hn : 1048577 < n) (m0 : List Mark) (m1 : List Mark) (m2 : List Mark) :
    loopAt (XCode.run cf n 0 xf_core_voters_b3) (headOf 0 xf_core_voters_k3) n (S_vot3 s m0 m1 m2 []) = some (.exit 6, ⟨[(2, .ptr 0 0), (3, .ptr 1 0)], (S_vot3 s m0 m1 m2 s.answers).H⟩) := by
  have hl := hs.answers
  refine loop_pre (S_vot3 s m0 m1 m2) s.answers _ (fun p v r hl => ?_) ?_ (fun s h => by simp at h) n (by omega)
  · have hx : (p.length : Int) < p.length + (r.length + 1) := by omega
    have hp : p.length ≤ 1048577 := by have : s.answers.length = p.length + (r.length + 1) := by simp [hl]
                                       omega
    have hw := wrap_i p.length (by omega)
    have hL : p.length + 1 ≤ LIM := by simp only [LIM]; omega
    cases p with
    | nil => cases m0 <;> cases m1 <;> cases m2 <;> simp [xf_core_voters_b3, xf_core_voters_k3, S_vot3, vcells, vcell, vheap, vblk, ansM, hl, hx, wrap1]
    | cons x p =>
      simp at hw hL hx
      cases m0 <;> cases m1 <;> cases m2 <;> (simp [xf_core_voters_b3, xf_core_voters_k3, S_vot3, vcells, vcell, vheap, vblk, ansM, hl, hw, hL, hx]; omega)
  · cases h : s.answers <;> cases m0 <;> cases m1 <;> cases m2 <;> simp [xf_core_voters_b3, S_vot3, vcells, vcell, vheap, vblk, ansM, h]

end Go.Ax

namespace Go.Ax
set_option linter.all false
variable {n d : Nat}
set_option maxRecDepth 10000
set_option linter.unusedSimpArgs false
set_option maxHeartbeats 4000000

def votersOf (s : State) : Dat := .agg [encMarks (s.acks.map ackM), encMarks s.marks, encMarks (s.ballots.map balM), encMarks (s.answers.map ansM)]
theorem vsplit (m : List Mark) : (m = [] ∧ (∀ j, vcell j m = .nil 138 3 true) ∧ vblk m = []) ∨ (m ≠ [] ∧ (∀ j, vcell j m = .own j 0 m.length) ∧ vblk m = [.arr 138 3 true false (m.map encMark)]) := by
  cases m with
  | nil => exact .inl ⟨rfl, fun _ => rfl, rfl⟩
  | cons x r => exact .inr ⟨by simp, fun _ => rfl, rfl⟩
theorem vcell_nil (j : Nat) : vcell j [] = .nil 138 3 true := rfl
theorem vblk_nil : vblk [] = [] := rfl
theorem e_core_voters (s : State) (hs : Small s) (hn : 1048577 < n) : runFn T n (d + 1) 68 [.dat (encS s)] [] = some (.dat (votersOf s), []) := by
  have h0 := l_core_voters0 (runFn T n d) s hs hn
  have h1 := l_core_voters1 (runFn T n d) s hs hn (s.acks.map ackM)
  have h2 := l_core_voters2 (runFn T n d) s hs hn (s.acks.map ackM) s.marks
  have h3 := l_core_voters3 (runFn T n d) s hs hn (s.acks.map ackM) s.marks (s.ballots.map balM)
  unfold votersOf
  simp only [S_vot0, S_vot1, S_vot2, S_vot3, List.map_nil, List.map_id, xf_core_voters_k0, xf_core_voters_k1, xf_core_voters_k2, xf_core_voters_k3, vcells, vheap, vcell_nil, vblk_nil] at h0 h1 h2 h3
  rw [runFn_succ]
  have hm : ∃ m, s.marks = m := ⟨_, rfl⟩
  generalize s.acks.map ackM = m0 at h0 h1 h2 h3 ⊢
  generalize s.ballots.map balM = m2 at h0 h1 h2 h3 ⊢
  generalize s.answers.map ansM = m3 at h0 h1 h2 h3 ⊢
  rcases vsplit m0 with ⟨z0, c0, b0⟩ | ⟨z0, c0, b0⟩ <;> rcases vsplit s.marks with ⟨z1, c1, b1⟩ | ⟨z1, c1, b1⟩ <;> rcases vsplit m2 with ⟨z2, c2, b2⟩ | ⟨z2, c2, b2⟩ <;> rcases vsplit m3 with ⟨z3, c3, b3⟩ | ⟨z3, c3, b3⟩ <;>
    simp [c0, c1, c2, c3, b0, b1, b2, b3] at h0 h1 h2 h3 <;>
    simp [T, xf_core_voters, xf_core_voters_k0, xf_core_voters_k1, xf_core_voters_k2, xf_core_voters_k3, h0, h1, h2, h3] <;> (try simp [z0, z1, z2, z3])
end Go.Ax

namespace Go.Ax
set_option linter.all false
variable {n d : Nat}
set_option maxRecDepth 10000
set_option linter.unusedSimpArgs false
set_option maxHeartbeats 1000000

abbrev boxM (a : Mark) : Blk := .box [.dat (di a.node), .dat (du a.draw.hi), .dat (du a.draw.lo)]
/-- A voter that may not stand behind that node. -/
def badV (s : State) (last : Int) (m : Mark) : Bool := decide (m.node ≤ last) || decide ((s.vector.length : Int) ≤ m.node) || decide (m.node = s.self) || !decide (s.vector.getD m.node.toNat ⟨0, 0⟩ = m.draw)
def firstBad (s : State) : Int → List Mark → Option Mark
  | _, [] => none
  | a, m :: r => if badV s a m = true then some m else firstBad s m.node r
theorem loopL_voted (s : State) (e : Mark → Ex × St) (fin : Ex × St) : ∀ (l : List Mark) (a : Int), loopL (fun a m => if badV s a m = true then .inr (e m) else .inl m.node) (fun _ => fin) l a = (firstBad s a l).elim fin e
  | [], a => rfl
  | x :: r, a => by
    simp only [loopL, firstBad]
    cases h : badV s a x
    · simp only [Bool.false_eq_true, if_false]; exact loopL_voted s e fin r x.node
    · simp

def S_vi (s : State) (j : Int) (m : List Mark) (i : Nat) (a : Int) : St := ⟨[(1, .ptr 0 0), (3, .dat (.bool true)), (6, .dat (di a)), (10, .dat (votersOf s)), (11, .dat (di j)), (14, .dat (encMarks m)), (15, .dat (di m.length)), (16, .dat (di i))], [boxS s]⟩
theorem l_core_voted1 (cf : CallF) (s : State) (j : Int) (m : List Mark) (hm : m.length ≤ 1048577) (hn : 1048577 < n) :
    loopAt (XCode.run cf n 0 xf_core_voted_b1) (headOf 0 xf_core_voted_k1) n (S_vi s j m 0 (-1)) =
      some ((firstBad s (-1) m).elim (.exit 2, ⟨[(1, .ptr 0 0), (3, .dat (.bool true)), (10, .dat (votersOf s)), (11, .dat (di j))], [boxS s]⟩) (fun x => (.exit 0, ⟨[(3, .dat (.bool false))], [boxS s, boxM x]⟩))) := by
  have := loop_list (body := XCode.run cf n 0 xf_core_voted_b1) (head := headOf 0 xf_core_voted_k1) (fun i a => S_vi s j m i a) (fun _ a => -1 ≤ a) m
    (fun a x => if badV s a x = true then .inr (.exit 0, ⟨[(3, .dat (.bool false))], [boxS s, boxM x]⟩) else .inl x.node) (fun _ => (.exit 2, ⟨[(1, .ptr 0 0), (3, .dat (.bool true)), (10, .dat (votersOf s)), (11, .dat (di j))], [boxS s]⟩))
    (fun i a hi hI => ?_) (fun a hI => ?_) m.length n 0 (-1) (by omega) (by omega) (by simp)
  · rw [this, loopL_voted, List.drop_zero]
  · have hi' : (i : Int) < m.length := by omega
    have hw := wrap_i i (by omega)
    cases hb : badV s a m[i]
    · simp only [Bool.false_eq_true, if_false]
      unfold badV at hb
      simp only [Bool.or_eq_false_iff, decide_eq_false_iff_not] at hb
      obtain ⟨⟨⟨b1, b2⟩, b3⟩, b4⟩ := hb
      refine ⟨by omega, nextK_some ?_⟩
      obtain ⟨k, hk⟩ := Int.eq_ofNat_of_zero_le (show 0 ≤ m[i].node by omega)
      have hk' : k < s.vector.length := by omega
      have b4' : s.vector[k] = m[i].draw := by simpa [hk, List.getD, hk'] using b4
      have hb' : (decide ((k : Int) ≤ a) || decide (s.vector.length ≤ k) || decide ((k : Int) = s.self)) = false := by rw [← hk]; simp [b1, b3, hk']
      simp [xf_core_voted_b1, xf_core_voted_k1, S_vi, hi, hi', hw, hk, hk', b4', hb']
    · simp only [if_true]
      refine ⟨?_, fun s h => by simp at h⟩
      cases hb' : (decide (m[i].node ≤ a) || decide ((s.vector.length : Int) ≤ m[i].node) || decide (m[i].node = s.self))
      · have hb'' := hb'
        simp only [Bool.or_eq_false_iff, decide_eq_false_iff_not] at hb''
        obtain ⟨⟨b1, b2⟩, b3⟩ := hb''
        obtain ⟨k, hk⟩ := Int.eq_ofNat_of_zero_le (show 0 ≤ m[i].node by omega)
        have hk' : k < s.vector.length := by omega
        have b4 : ¬ s.vector[k] = m[i].draw := by
          unfold badV at hb
          rw [hb'] at hb
          simpa [hk, List.getD, hk'] using hb
        have hb' : (decide ((k : Int) ≤ a) || decide (s.vector.length ≤ k) || decide ((k : Int) = s.self)) = false := by rw [← hk]; simp [b1, b3, hk']
        have b5 : s.vector[k].hi = m[i].draw.hi → ¬ s.vector[k].lo = m[i].draw.lo := fun h1 h2 => b4 (by cases ha : s.vector[k]; cases hb : m[i].draw; simp_all)
        simp [xf_core_voted_b1, xf_core_voted_k1, S_vi, hi, hi', hw, hk, hk', hb']
        rw [if_pos (by
          by_cases h1 : s.vector[k].hi = m[i].draw.hi
          · exact .inr (b5 h1)
          · exact .inl h1)]
        simp [hk]
      · simp [xf_core_voted_b1, xf_core_voted_k1, S_vi, hi, hi', hw, hb']
  · refine ⟨?_, fun s h => by simp at h⟩
    simp [xf_core_voted_b1, S_vi]

theorem wrap2 : IntKind.wrap .i64 2 = 2 := by decide
theorem wrap3 : IntKind.wrap .i64 3 = 3 := by decide
theorem wrap4 : IntKind.wrap .i64 4 = 4 := by decide
def mkList (s : State) : List (List Mark) := [s.acks.map ackM, s.marks, s.ballots.map balM, s.answers.map ansM]
def votedOk (s : State) : Bool := (mkList s).all fun m => (firstBad s (-1) m).isNone
def S_vo (s : State) (j : Nat) : St := ⟨[(1, .ptr 0 0), (3, .dat (.bool true)), (10, .dat (votersOf s)), (11, .dat (di j))], [boxS s]⟩
theorem o_core_voted (cf : CallF) (s : State) (hs : Small s) (hn : 1048577 < n) (j : Nat) (hj : j < (mkList s).length) :
    XCode.run cf n 0 xf_core_voted_b0 (S_vo s j) = some ((firstBad s (-1) (mkList s)[j]).elim (.normal, S_vo s (j + 1)) (fun x => (.exit 0, ⟨[(3, .dat (.bool false))], [boxS s, boxM x]⟩))) := by
  have hl : (mkList s)[j].length ≤ 1048577 := by
    match j, hj with
    | 0, _ => simpa [mkList] using hs.acks
    | 1, _ => simpa [mkList] using hs.marks
    | 2, _ => simpa [mkList] using hs.ballots
    | 3, _ => simpa [mkList] using hs.answers
    | j + 4, h => exact absurd h (by simp [mkList])
  have h0 := l_core_voted1 cf s j (mkList s)[j] hl hn
  match j, hj with
  | 0, _ =>
    cases hf : firstBad s (-1) (mkList s)[0] with
    | none =>
      rw [hf] at h0; simp [S_vi, votersOf, mkList, xf_core_voted_k1] at h0
      simp [xf_core_voted_b0, xf_core_voted_k1, S_vo, votersOf, h0, wrap1]
    | some x =>
      rw [hf] at h0; simp [S_vi, votersOf, mkList, xf_core_voted_k1] at h0
      simp [xf_core_voted_b0, xf_core_voted_k1, S_vo, votersOf, h0, wrap1]
  | 1, _ =>
    cases hf : firstBad s (-1) (mkList s)[1] with
    | none =>
      rw [hf] at h0; simp [S_vi, votersOf, mkList, xf_core_voted_k1] at h0
      simp [xf_core_voted_b0, xf_core_voted_k1, S_vo, votersOf, h0, wrap2, wrap3, wrap4]
    | some x =>
      rw [hf] at h0; simp [S_vi, votersOf, mkList, xf_core_voted_k1] at h0
      simp [xf_core_voted_b0, xf_core_voted_k1, S_vo, votersOf, h0]
  | 2, _ =>
    cases hf : firstBad s (-1) (mkList s)[2] with
    | none =>
      rw [hf] at h0; simp [S_vi, votersOf, mkList, xf_core_voted_k1] at h0
      simp [xf_core_voted_b0, xf_core_voted_k1, S_vo, votersOf, h0, wrap2, wrap3, wrap4]
    | some x =>
      rw [hf] at h0; simp [S_vi, votersOf, mkList, xf_core_voted_k1] at h0
      simp [xf_core_voted_b0, xf_core_voted_k1, S_vo, votersOf, h0]
  | 3, _ =>
    cases hf : firstBad s (-1) (mkList s)[3] with
    | none =>
      rw [hf] at h0; simp [S_vi, votersOf, mkList, xf_core_voted_k1] at h0
      simp [xf_core_voted_b0, xf_core_voted_k1, S_vo, votersOf, h0, wrap2, wrap3, wrap4]
    | some x =>
      rw [hf] at h0; simp [S_vi, votersOf, mkList, xf_core_voted_k1] at h0
      simp [xf_core_voted_b0, xf_core_voted_k1, S_vo, votersOf, h0]
  | j + 4, h => exact absurd h (by simp [mkList])
theorem loopL_voted2 (s : State) (e : Mark → Ex × St) (fin : Ex × St) : ∀ l : List (List Mark), loopL (fun (_ : Unit) m => match firstBad s (-1) m with
    | some x => .inr (e x)
    | none => .inl ()) (fun _ => fin) l () = (l.findSome? (firstBad s (-1))).elim fin e
  | [] => rfl
  | m :: r => by
    simp only [loopL, List.findSome?_cons]
    cases h : firstBad s (-1) m
    · exact loopL_voted2 s e fin r
    · rfl
theorem l_core_voted0 (cf : CallF) (s : State) (hs : Small s) (hn : 1048577 < n) :
    loopAt (XCode.run cf n 0 xf_core_voted_b0) (headOf 0 xf_core_voted_k0) n (S_vo s 0) = some (((mkList s).findSome? (firstBad s (-1))).elim (.exit 0, ⟨[(3, .dat (.bool true))], [boxS s]⟩) (fun x => (.exit 0, ⟨[(3, .dat (.bool false))], [boxS s, boxM x]⟩))) := by
  have := loop_list (body := XCode.run cf n 0 xf_core_voted_b0) (head := headOf 0 xf_core_voted_k0) (fun i (_ : Unit) => S_vo s i) (fun _ _ => True) (mkList s)
    (fun _ m => match firstBad s (-1) m with
    | some x => .inr (.exit 0, ⟨[(3, .dat (.bool false))], [boxS s, boxM x]⟩)
    | none => .inl ()) (fun _ => (.exit 0, ⟨[(3, .dat (.bool true))], [boxS s]⟩)) (fun i _ hi _ => ?_) (fun _ _ => ⟨?_, fun s h => by simp at h⟩) 4 n 0 () (by simp [mkList]) (by omega) trivial
  · rw [this, List.drop_zero, loopL_voted2]
  · have h := o_core_voted cf s hs hn i hi
    cases hf : firstBad s (-1) (mkList s)[i] with
    | none =>
      rw [hf] at h
      exact ⟨trivial, S_vo s (i + 1), h, by simp [xf_core_voted_k0, S_vo]⟩
    | some x =>
      rw [hf] at h
      exact ⟨h, fun s h => by simp at h⟩
  · simp [xf_core_voted_b0, S_vo, mkList]
theorem votedOk_iff (s : State) : votedOk s = ((mkList s).findSome? (firstBad s (-1))).isNone := by
  rw [Bool.eq_iff_iff]
  simp [votedOk, List.findSome?_eq_none_iff]
theorem e_core_voted (s : State) (hs : Small s) (hn : 1048577 < n) : runFn T n (d + 2) 45 [.dat (encS s)] [] = some (.dat (.bool (votedOk s)), []) := by
  have h0 := l_core_voted0 (runFn T n (d + 1)) s hs hn
  have h1 := e_core_voters (n := n) (d := d) s hs hn
  rw [runFn_succ, votedOk_iff]
  cases hf : (mkList s).findSome? (firstBad s (-1)) with
  | none =>
    rw [hf] at h0; simp [S_vo, xf_core_voted_k0] at h0
    simp [T, xf_core_voted, xf_core_voted_k0, h0, h1]
  | some x =>
    rw [hf] at h0; simp [S_vo, xf_core_voted_k0] at h0
    simp [T, xf_core_voted, xf_core_voted_k0, h0, h1]
end Go.Ax

namespace Go.Ax
set_option linter.all false
variable {n d : Nat}
set_option maxRecDepth 10000
set_option linter.unusedSimpArgs false
set_option maxHeartbeats 1000000

abbrev encNs (m : List Mark) : Dat := .sl 1 true (m.map fun x => di x.node)
abbrev encDs (m : List Mark) : Dat := .sl 2 true (m.map fun x => encD x.draw)
def S_rv (s : State) (m : List Mark) (i : Nat) : St := ⟨[(1, .dat (di s.vector.length)), (2, .dat (encNs m)), (3, .dat (encDs m)), (4, .ptr 0 0), (9, .dat (di i))], [boxS s]⟩
theorem wrap_nat (q : Nat) (h : q < 2^40) : IntKind.wrap .i64 (q : Int) = q := by
  simp [IntKind.wrap, IntKind.bits, IntKind.signed]; omega
theorem l_ref09_voters (cf : CallF) (s : State) (m : List Mark) (hm : m.length ≤ 1048577) (hn : 1048577 < n) :
    loopAt (XCode.run cf n 0 xf_ref09_voters_b0) (headOf 0 xf_ref09_voters_k0) n (S_rv s m 0) = some ((firstBad s (-1) m).elim (.exit 0, ⟨[], [boxS s]⟩) (fun _ => (.ret, ⟨[(8, .dat (.bool false))], [boxS s]⟩))) := by
  have := loop_list (body := XCode.run cf n 0 xf_ref09_voters_b0) (head := headOf 0 xf_ref09_voters_k0) (fun i (_ : Int) => S_rv s m i) (fun i a => -1 ≤ a ∧ ((i = 0 ∧ a = -1) ∨ (∃ q, ∃ h : q < m.length, i = q + 1 ∧ m[q].node = a ∧ 0 ≤ a))) m
    (fun a x => if badV s a x = true then .inr (.ret, ⟨[(8, .dat (.bool false))], [boxS s]⟩) else .inl x.node) (fun _ => (.exit 0, ⟨[], [boxS s]⟩))
    (fun i a hi hI => ?_) (fun a hI => ?_) m.length n 0 (-1) (by omega) (by omega) (by simp)
  · rw [this, loopL_voted, List.drop_zero]
  · have hi' : (i : Int) < m.length := by omega
    have hw := wrap_i i (by omega)
    obtain ⟨hI, hJ⟩ := hI
    cases hb : badV s a m[i]
    · simp only [Bool.false_eq_true, if_false]
      unfold badV at hb
      simp only [Bool.or_eq_false_iff, decide_eq_false_iff_not] at hb
      obtain ⟨⟨⟨b1, b2⟩, b3⟩, b4⟩ := hb
      refine ⟨⟨by omega, .inr ⟨i, hi, rfl, rfl, by omega⟩⟩, nextK_some ?_⟩
      obtain ⟨k, hk⟩ := Int.eq_ofNat_of_zero_le (show 0 ≤ m[i].node by omega)
      have hk' : k < s.vector.length := by omega
      have hk2 : ¬ s.vector.length ≤ k := by omega
      have b4' : s.vector[k] = m[i].draw := by simpa [hk, List.getD, hk'] using b4
      rw [hk] at b3 b1
      rcases hJ with ⟨rfl, rfl⟩ | ⟨q, hq, rfl, ha, ha0⟩
      · simp [xf_ref09_voters_b0, xf_ref09_voters_k0, S_rv, hi, hi', hw, hk, hk', hk2, b3, b4', wrap1]
      · obtain ⟨r, hr⟩ := Int.eq_ofNat_of_zero_le ha0
        rw [hr] at ha b1
        have b1' : ¬ k ≤ r := by omega
        have hwq := wrap_nat q (by omega)
        simp at hw
        have hq1 : (0 : Int) < (q : Int) + 1 ∧ (0 : Int) ≤ (q : Int) + 1 := by omega
        have hi2 : (q : Int) + 1 < m.length := by omega
        simp [xf_ref09_voters_b0, xf_ref09_voters_k0, S_rv, hi, hi', hw, hk, hk', hk2, b3, b4', ha, hq, hwq, b1', hq1, hi2]
    · simp only [if_true]
      refine ⟨?_, fun s h => by simp at h⟩
      by_cases c1 : m[i].node < 0
      · simp [xf_ref09_voters_b0, S_rv, hi, hi', c1]
      · obtain ⟨k, hk⟩ := Int.eq_ofNat_of_zero_le (show 0 ≤ m[i].node by omega)
        by_cases c2 : s.vector.length ≤ k
        · simp [xf_ref09_voters_b0, S_rv, hi, hi', hk, c2]
        · by_cases c3 : (k : Int) = s.self
          · have c3' := eq_true c3
            simp [xf_ref09_voters_b0, S_rv, hi, hi', hk, c2, c3']
          · have hk' : k < s.vector.length := by omega
            have b0 : m[i].node ≤ a ∨ ¬ s.vector[k] = m[i].draw := by
              unfold badV at hb
              simpa [hk, List.getD, hk', c3, c2] using hb
            have b5 : ¬ s.vector[k] = m[i].draw → s.vector[k].hi = m[i].draw.hi → ¬ s.vector[k].lo = m[i].draw.lo := fun b4 h1 h2 => b4 (by cases ha : s.vector[k]; cases hb : m[i].draw; simp_all)
            rcases hJ with ⟨rfl, rfl⟩ | ⟨q, hq, rfl, ha, ha0⟩
            · have b4 : ¬ s.vector[k] = m[0].draw := by
                rcases b0 with b0 | b0
                · omega
                · exact b0
              have b6 := b5 b4
              simp [xf_ref09_voters_b0, S_rv, hi, hi', hk, hk', c2, c3]
              exact fun h1 h2 => b6 h1.symm h2.symm
            · obtain ⟨r, hr⟩ := Int.eq_ofNat_of_zero_le ha0
              rw [hr] at ha b0
              rw [hk] at b0
              have hwq := wrap_nat q (by omega)
              have hq1 : (0 : Int) < (q : Int) + 1 ∧ (0 : Int) ≤ (q : Int) + 1 := by omega
              have hi2 : (q : Int) + 1 < m.length := by omega
              by_cases c4 : k ≤ r
              · simp [xf_ref09_voters_b0, S_rv, hi, hi', hk, hk', c2, c3, ha, hq, hwq, c4, hq1, hi2]
              · have b4 : ¬ s.vector[k] = m[q + 1].draw := by
                  rcases b0 with b0 | b0
                  · omega
                  · exact b0
                have b6 := b5 b4
                simp [xf_ref09_voters_b0, S_rv, hi, hi', hk, hk', c2, c3, ha, hq, hwq, c4, hq1, hi2]
                exact fun h1 h2 => b6 h1.symm h2.symm
  · refine ⟨?_, fun s h => by simp at h⟩
    simp [xf_ref09_voters_b0, S_rv]
theorem e_ref09_voters (s : State) (m : List Mark) (hm : m.length ≤ 1048577) (hn : 1048577 < n) : runFn T n (d + 1) 82 [.dat (encS s), .dat (di s.vector.length), .dat (encNs m), .dat (encDs m)] [] = some (.dat (.bool (firstBad s (-1) m).isNone), []) := by
  have h0 := l_ref09_voters (runFn T n d) s m hm hn
  simp [S_rv, xf_ref09_voters_k0] at h0
  rw [runFn_succ]
  cases hf : firstBad s (-1) m with
  | none =>
    rw [hf] at h0; simp at h0
    simp [T, xf_ref09_voters, xf_ref09_voters_k0, h0]
  | some x =>
    rw [hf] at h0; simp at h0
    simp [T, xf_ref09_voters, xf_ref09_voters_k0, h0]

end Go.Ax

namespace Go.Ax
set_option linter.all false
variable {n d : Nat}
set_option maxRecDepth 10000
set_option linter.unusedSimpArgs false
set_option maxHeartbeats 4000000

def S_rvs0 (s : State)  (p : List Ack) : St := ⟨[(1, .dat (di s.vector.length)), (2, .ptr 0 0), (5, .own 1 0 (p.map ackM).length), (6, .own 2 0 0), (7, .own 3 0 0), (8, .own 4 0 0), (9, .own 5 0 (p.map ackM).length), (10, .own 6 0 0), (11, .own 7 0 0), (12, .own 8 0 0), (13, .dat (di p.length))], [boxS s, .arr 3 1 true false ((p.map ackM).map fun x => di x.node), .arr 3 1 true false [], .arr 3 1 true false [], .arr 3 1 true false [], .arr 60 2 true false ((p.map ackM).map fun x => encD x.draw), .arr 60 2 true false [], .arr 60 2 true false [], .arr 60 2 true false []]⟩
theorem l_ref09_votes0 (cf : CallF) (s : State) (hs : Small s) (hn : 1048577 < n)  :
    loopAt (XCode.run cf n 0 xf_ref09_votes_b0) (headOf 0 xf_ref09_votes_k0) n (S_rvs0 s []) = some (.exit 0, ⟨(S_rvs0 s s.acks).env.take 10, (S_rvs0 s s.acks).H⟩) := by
  have hl := hs.acks
  refine loop_pre (S_rvs0 s) s.acks _ (fun p v r hl => ?_) ?_ (fun s h => by simp at h) n (by omega)
  · have hx : (p.length : Int) < p.length + (r.length + 1) := by omega
    have hp : p.length ≤ 1048577 := by have : s.acks.length = p.length + (r.length + 1) := by simp [hl]
                                       omega
    have hw := wrap_i p.length (by omega)
    have hL : p.length + 1 ≤ LIM := by simp only [LIM]; omega
    simp at hw
    simp [xf_ref09_votes_b0, xf_ref09_votes_k0, S_rvs0, ackM, hl, hx, hw, hL]
  · simp [xf_ref09_votes_b0, S_rvs0]

def S_rvs1 (s : State) (m0 : List Mark) (p : List Mark) : St := ⟨[(1, .dat (di s.vector.length)), (2, .ptr 0 0), (5, .own 1 0 m0.length), (6, .own 2 0 (p.map id).length), (7, .own 3 0 0), (8, .own 4 0 0), (9, .own 5 0 m0.length), (10, .own 6 0 (p.map id).length), (11, .own 7 0 0), (12, .own 8 0 0), (14, .dat (di p.length))], [boxS s, .arr 3 1 true false (m0.map fun x => di x.node), .arr 3 1 true false ((p.map id).map fun x => di x.node), .arr 3 1 true false [], .arr 3 1 true false [], .arr 60 2 true false (m0.map fun x => encD x.draw), .arr 60 2 true false ((p.map id).map fun x => encD x.draw), .arr 60 2 true false [], .arr 60 2 true false []]⟩
theorem l_ref09_votes1 (cf : CallF) (s : State) (hs : Small s) (hn : 1048577 < n) (m0 : List Mark) :
    loopAt (XCode.run cf n 0 xf_ref09_votes_b1) (headOf 0 xf_ref09_votes_k1) n (S_rvs1 s m0 []) = some (.exit 2, ⟨(S_rvs1 s m0 s.marks).env.take 10, (S_rvs1 s m0 s.marks).H⟩) := by
  have hl := hs.marks
  refine loop_pre (S_rvs1 s m0) s.marks _ (fun p v r hl => ?_) ?_ (fun s h => by simp at h) n (by omega)
  · have hx : (p.length : Int) < p.length + (r.length + 1) := by omega
    have hp : p.length ≤ 1048577 := by have : s.marks.length = p.length + (r.length + 1) := by simp [hl]
                                       omega
    have hw := wrap_i p.length (by omega)
    have hL : p.length + 1 ≤ LIM := by simp only [LIM]; omega
    simp at hw
    simp [xf_ref09_votes_b1, xf_ref09_votes_k1, S_rvs1, id, hl, hx, hw, hL]
  · simp [xf_ref09_votes_b1, S_rvs1]

def S_rvs2 (s : State) (m0 : List Mark) (m1 : List Mark) (p : List Ballot) : St := ⟨[(1, .dat (di s.vector.length)), (2, .ptr 0 0), (5, .own 1 0 m0.length), (6, .own 2 0 m1.length), (7, .own 3 0 (p.map balM).length), (8, .own 4 0 0), (9, .own 5 0 m0.length), (10, .own 6 0 m1.length), (11, .own 7 0 (p.map balM).length), (12, .own 8 0 0), (15, .dat (di p.length))], [boxS s, .arr 3 1 true false (m0.map fun x => di x.node), .arr 3 1 true false (m1.map fun x => di x.node), .arr 3 1 true false ((p.map balM).map fun x => di x.node), .arr 3 1 true false [], .arr 60 2 true false (m0.map fun x => encD x.draw), .arr 60 2 true false (m1.map fun x => encD x.draw), .arr 60 2 true false ((p.map balM).map fun x => encD x.draw), .arr 60 2 true false []]⟩
theorem l_ref09_votes2 (cf : CallF) (s : State) (hs : Small s) (hn : 1048577 < n) (m0 : List Mark) (m1 : List Mark) :
    loopAt (XCode.run cf n 0 xf_ref09_votes_b2) (headOf 0 xf_ref09_votes_k2) n (S_rvs2 s m0 m1 []) = some (.exit 4, ⟨(S_rvs2 s m0 m1 s.ballots).env.take 10, (S_rvs2 s m0 m1 s.ballots).H⟩) := by
  have hl := hs.ballots
  refine loop_pre (S_rvs2 s m0 m1) s.ballots _ (fun p v r hl => ?_) ?_ (fun s h => by simp at h) n (by omega)
  · have hx : (p.length : Int) < p.length + (r.length + 1) := by omega
    have hp : p.length ≤ 1048577 := by have : s.ballots.length = p.length + (r.length + 1) := by simp [hl]
                                       omega
    have hw := wrap_i p.length (by omega)
    have hL : p.length + 1 ≤ LIM := by simp only [LIM]; omega
    simp at hw
    simp [xf_ref09_votes_b2, xf_ref09_votes_k2, S_rvs2, balM, hl, hx, hw, hL]
  · simp [xf_ref09_votes_b2, S_rvs2]

def S_rvs3 (s : State) (m0 : List Mark) (m1 : List Mark) (m2 : List Mark) (p : List Answer) : St := ⟨[(1, .dat (di s.vector.length)), (2, .ptr 0 0), (5, .own 1 0 m0.length), (6, .own 2 0 m1.length), (7, .own 3 0 m2.length), (8, .own 4 0 (p.map ansM).length), (9, .own 5 0 m0.length), (10, .own 6 0 m1.length), (11, .own 7 0 m2.length), (12, .own 8 0 (p.map ansM).length), (16, .dat (di p.length))], [boxS s, .arr 3 1 true false (m0.map fun x => di x.node), .arr 3 1 true false (m1.map fun x => di x.node), .arr 3 1 true false (m2.map fun x => di x.node), .arr 3 1 true false ((p.map ansM).map fun x => di x.node), .arr 60 2 true false (m0.map fun x => encD x.draw), .arr 60 2 true false (m1.map fun x => encD x.draw), .arr 60 2 true false (m2.map fun x => encD x.draw), .arr 60 2 true false ((p.map ansM).map fun x => encD x.draw)]⟩
theorem l_ref09_votes3 (cf : CallF) (s : State) (hs : Small s) (hn : 1048577 < n) (m0 : List Mark) (m1 : List Mark) (m2 : List Mark) :
    loopAt (XCode.run cf n 0 xf_ref09_votes_b3) (headOf 0 xf_ref09_votes_k3) n (S_rvs3 s m0 m1 m2 []) = some (.exit 6, ⟨(S_rvs3 s m0 m1 m2 s.answers).env.take 10, (S_rvs3 s m0 m1 m2 s.answers).H⟩) := by
  have hl := hs.answers
  refine loop_pre (S_rvs3 s m0 m1 m2) s.answers _ (fun p v r hl => ?_) ?_ (fun s h => by simp at h) n (by omega)
  · have hx : (p.length : Int) < p.length + (r.length + 1) := by omega
    have hp : p.length ≤ 1048577 := by have : s.answers.length = p.length + (r.length + 1) := by simp [hl]
                                       omega
    have hw := wrap_i p.length (by omega)
    have hL : p.length + 1 ≤ LIM := by simp only [LIM]; omega
    simp at hw
    simp [xf_ref09_votes_b3, xf_ref09_votes_k3, S_rvs3, ansM, hl, hx, hw, hL]
  · simp [xf_ref09_votes_b3, S_rvs3]

theorem e_ref09_votes (s : State) (hs : Small s) (hn : 1048577 < n) : runFn T n (d + 2) 72 [.dat (encS s), .dat (di s.vector.length)] [] = some (.dat (.bool (votedOk s)), []) := by
  have h0 := l_ref09_votes0 (runFn T n (d + 1)) s hs hn
  have h1 := l_ref09_votes1 (runFn T n (d + 1)) s hs hn (s.acks.map ackM)
  have h2 := l_ref09_votes2 (runFn T n (d + 1)) s hs hn (s.acks.map ackM) s.marks
  have h3 := l_ref09_votes3 (runFn T n (d + 1)) s hs hn (s.acks.map ackM) s.marks (s.ballots.map balM)
  have v0 := e_ref09_voters (n := n) (d := d) s (s.acks.map ackM) (by simpa using hs.acks) hn
  have v1 := e_ref09_voters (n := n) (d := d) s s.marks hs.marks hn
  have v2 := e_ref09_voters (n := n) (d := d) s (s.ballots.map balM) (by simpa using hs.ballots) hn
  have v3 := e_ref09_voters (n := n) (d := d) s (s.answers.map ansM) (by simpa using hs.answers) hn
  have e : votedOk s = ((firstBad s (-1) (s.acks.map ackM)).isNone && (firstBad s (-1) s.marks).isNone && (firstBad s (-1) (s.ballots.map balM)).isNone && (firstBad s (-1) (s.answers.map ansM)).isNone) := by
    simp [votedOk, mkList, Bool.and_assoc]
  rw [e]
  simp only [S_rvs0, S_rvs1, S_rvs2, S_rvs3, List.map_nil, List.map_id, List.length_nil, Int.natCast_zero, xf_ref09_votes_k0, xf_ref09_votes_k1, xf_ref09_votes_k2, xf_ref09_votes_k3, List.take_succ_cons, List.take_zero] at h0 h1 h2 h3
  rw [runFn_succ]
  generalize s.acks.map ackM = m0 at h0 h1 h2 h3 v0 ⊢
  generalize s.ballots.map balM = m2 at h0 h1 h2 h3 v2 ⊢
  generalize s.answers.map ansM = m3 at h0 h1 h2 h3 v3 ⊢
  generalize (firstBad s (-1) m0).isNone = w0 at v0 ⊢
  generalize (firstBad s (-1) s.marks).isNone = w1 at v1 ⊢
  generalize (firstBad s (-1) m2).isNone = w2 at v2 ⊢
  generalize (firstBad s (-1) m3).isNone = w3 at v3 ⊢
  cases w0 <;> cases w1 <;> cases w2 <;> cases w3 <;> simp [T, xf_ref09_votes, xf_ref09_votes_k0, xf_ref09_votes_k1, xf_ref09_votes_k2, xf_ref09_votes_k3, h0, h1, h2, h3, v0, v1, v2, v3]
end Go.Ax
