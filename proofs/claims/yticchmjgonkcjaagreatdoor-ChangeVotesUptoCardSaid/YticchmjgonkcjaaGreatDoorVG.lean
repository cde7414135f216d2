/-
  Which log goes on: the program's choice and the document's, evaluated.
-/
import Derived.Test.YticchmjgonkcjaaGreatDoorPA
import Derived.Test.YticchmjgonkcjaaGreatDoorME
import Derived.Test.YticchmjgonkcjaaGreatDoorEC
import Derived.Test.YticchmjgonkcjaaGreatDoorQG
import Derived.Test.YticchmjgonkcjaaGreatDoorEH
import Derived.Test.YticchmjgonkcjaaGreatDoorMF
import Derived.Test.YticchmjgonkcjaaGreatDoorED
namespace Go.Ax
set_option linter.all false
variable {n d : Nat}
set_option maxRecDepth 10000
set_option linter.unusedSimpArgs false
set_option maxHeartbeats 8000000
abbrev bxB (x : Ballot) : Blk := .box [.dat (di x.node), .dat (du x.draw.hi), .dat (du x.draw.lo), .dat (di x.last), .dat (di x.commit), .dat (encLog x.log)]
abbrev boxZB : Blk := .box [.dat (di 0), .dat (du 0), .dat (du 0), .dat (di 0), .dat (di 0), .nil 38 5 true]
def g_ch (a : Ballot × Int) (x : Ballot) : Ballot × Int := (if betterP x a.1 = true then x else a.1, max a.2 x.commit)
theorem g_ch_fold : ∀ (l : List Ballot) (a : Ballot × Int), l.foldl g_ch a = (bestP a.1 l, l.foldl (fun a b => max a b.commit) a.2)
 | [], a => rfl
 | x :: r, a => by rw [List.foldl_cons, g_ch_fold r]; rfl
def S_ch (l : List Ballot) (i : Nat) (a : Ballot × Int) : St := ⟨[(6, .ptr 0 0), (8, .ptr 1 0), (9, .dat (di a.2)), (21, .dat (encBals l)), (22, .dat (di l.length)), (23, .dat (di i))], [boxZB, bxB a.1]⟩
theorem l_ch (l : List Ballot) (a : Ballot × Int) (cf : CallF) (hl : l.length ≤ 1048577) (hn : 1048577 < n) :
  loopAt (XCode.run cf n 0 xf_tally_Choose_b0) (headOf 0 xf_tally_Choose_k0) n (S_ch l 0 a) = some (.exit 0, ⟨[(6, .ptr 0 0), (8, .ptr 1 0), (9, .dat (di (l.foldl g_ch a).2))], [boxZB, bxB (l.foldl g_ch a).1]⟩) := by
 refine loop_fold (S_ch l) (fun _ _ => True) l g_ch (fun a => (.exit 0, ⟨[(6, .ptr 0 0), (8, .ptr 1 0), (9, .dat (di a.2))], [boxZB, bxB a.1]⟩)) a trivial (fun i a hi _ => ⟨trivial, nextK_some ?_⟩) (fun a _ => ?_) (fun a s h => by cases h) n (by omega)
 ·have hi' : (i : Int) < l.length := by omega
  have hw := wrap_i i (by omega)
  obtain ⟨b, k⟩ := a
  have hmax : max k l[i].commit = if k < l[i].commit then l[i].commit else k := by split <;> omega
  unfold g_ch betterP
  by_cases h1 : b.last < l[i].last
  ·simp [xf_tally_Choose_b0, xf_tally_Choose_k0, S_ch, hi, hi', hw, hmax, h1]
  ·by_cases h2 : l[i].last = b.last
   ·have h2' := eq_true h2
    by_cases h3 : b.log.length < l[i].log.length
    ·have h3' : (b.log.length : Int) < l[i].log.length := by omega
     simp [xf_tally_Choose_b0, xf_tally_Choose_k0, S_ch, hi, hi', hw, hmax, h1, h2', h3, h3']
    ·have h3' : ¬ (b.log.length : Int) < l[i].log.length := by omega
     by_cases h4 : l[i].log.length = b.log.length
     ·have h4' := eq_true h4
      have h4c : ((l[i].log.length : Int) = b.log.length) = True := eq_true (by omega)
      by_cases h5 : l[i].node < b.node
      ·simp [xf_tally_Choose_b0, xf_tally_Choose_k0, S_ch, hi, hi', hw, hmax, h1, h2', h3, h3', h4', h4c, h5]
      ·simp [xf_tally_Choose_b0, xf_tally_Choose_k0, S_ch, hi, hi', hw, hmax, h1, h2', h3, h3', h4', h4c, h5]
     ·have h4' := eq_false h4
      have h4c : ((l[i].log.length : Int) = b.log.length) = False := eq_false (by omega)
      simp [xf_tally_Choose_b0, xf_tally_Choose_k0, S_ch, hi, hi', hw, hmax, h1, h2', h3, h3', h4', h4c]
   ·have h2' := eq_false h2
    simp [xf_tally_Choose_b0, xf_tally_Choose_k0, S_ch, hi, hi', hw, hmax, h1, h2']
 ·simp [xf_tally_Choose_b0, S_ch]
def zeroBal : Ballot := ⟨0, ⟨0, 0⟩, 0, 0, []⟩
theorem bestP_mem : ∀ (l : List Ballot) (b : Ballot), bestP b l = b ∨ bestP b l ∈ l
 | [], b => .inl rfl
 | x :: r, b => by
  have : bestP b (x :: r) = bestP (if betterP x b then x else b) r := rfl
  rw [this]
  rcases bestP_mem r (if betterP x b then x else b) with h | h
  ·rw [h]; split
   ·exact .inr (by simp)
   ·exact .inl rfl
  ·exact .inr (by simp [h])
theorem e_tally_Choose (f : Int) (own : Ballot) (l : List Ballot) (hl : l.length ≤ 1048577) (hg : ∀ x ∈ l, x.log.length ≤ 1048577) (ho : own.log.length ≤ 1048577) (hn : 1048577 < n) :
  runFn T n (d + 2) 155 [.dat (di f), .dat (encBal own), .dat (encBals l)] [] =
   some (.tup [.dat (encBal (if (l.length : Int) < f then zeroBal else { bestP own l with commit := chosen own l })), .dat (di (if (l.length : Int) < f then 81 else 0))], []) := by
 have hL := l_ch (n := n) l (own, own.commit) (runFn T n (d + 1)) hl hn
 rw [g_ch_fold] at hL
 have hbl : (bestP own l).log.length ≤ 1048577 := by
  rcases bestP_mem l own with h | h
  ·rw [h]; exact ho
  ·exact hg _ h
 have hm : l.foldl (fun a b => max a b.commit) own.commit = mostP own l := rfl
 have hc : chosen own l = max 0 (min (mostP own l) (bestP own l).log.length) := rfl
 simp only [hm] at hL
 rw [hc]
 generalize mostP own l = K at *
 generalize bestP own l = B at *
 have fr := e_ballot_fresh (n := n) (d := d) B hbl
 simp [S_ch, xf_tally_Choose_k0] at hL
 rw [runFn_succ]
 by_cases q : (l.length : Int) < f
 ·rw [if_pos q, if_pos q]
  simp [T, xf_tally_Choose, q, zeroBal]
 ·rw [if_neg q, if_neg q]
  have hx : max 0 (min K (B.log.length : Int)) = if 0 < (if (B.log.length : Int) < K then (B.log.length : Int) else K) then (if (B.log.length : Int) < K then (B.log.length : Int) else K) else 0 := by
   split <;> split at * <;> omega
  rw [hx]
  simp [T, xf_tally_Choose, xf_tally_Choose_k0, q, hL, fr]
theorem e_ref11_better (a b : Ballot) : runFn T n (d + 1) 66 [.dat (encBal a), .dat (encBal b)] [] = some (.dat (.bool (aboveBal a b)), []) := by
 rw [runFn_succ]
 unfold aboveBal longerB
 by_cases h1 : a.last = b.last
 ·have h1' := eq_true h1
  rw [if_neg (by simp [h1])]
  by_cases h2 : a.log.length = b.log.length
  ·have h2' := eq_true h2
   have h3 : ¬ b.log.length < a.log.length := by omega
   have h2c : ((a.log.length : Int) = b.log.length) = True := eq_true (by omega)
   simp [T, xf_ref11_better, h1', h2', h2c, h3]
  ·have h2' := eq_false h2
   have h2c : ((a.log.length : Int) = b.log.length) = False := eq_false (by omega)
   simp [T, xf_ref11_better, h1', h2', h2c]
 ·have h1' := eq_false h1
  rw [if_pos h1]
  simp [T, xf_ref11_better, h1']
def S_rp (l : List Ballot) (v : Ballot) (i : Nat) (a : List Ballot × Bool) : St := ⟨[(0, .dat (encBals l)), (3, .ptr 0 0), (5, .own 1 0 a.1.length), (6, .dat (.bool a.2)), (7, .dat (di i))], [bxB v, .arr 78 6 false false (a.1.map encBal)]⟩
theorem l_rp (l : List Ballot) (v : Ballot) (hl : l.length ≤ 1048577) (hn : 1048577 < n) :
  loopAt (XCode.run (runFn T n (d + 1)) n 0 xf_ref11_put_b0) (headOf 0 xf_ref11_put_k0) n (S_rp l v 0 ([], false)) = some (.exit 0, ⟨[(3, .ptr 0 0), (5, .own 1 0 (l.foldl (putF (·.node) (aboveBal v) v) ([], false)).1.length), (6, .dat (.bool (l.foldl (putF (·.node) (aboveBal v) v) ([], false)).2))], (S_rp l v 0 (l.foldl (putF (·.node) (aboveBal v) v) ([], false))).H⟩) := by
 refine loop_fold (S_rp l v) (fun i a => a.1.length ≤ 2 * i) l (putF (·.node) (aboveBal v) v) (fun a => (.exit 0, ⟨[(3, .ptr 0 0), (5, .own 1 0 a.1.length), (6, .dat (.bool a.2))], (S_rp l v 0 a).H⟩)) ([], false) (by simp) (fun i a hi hI => ?_) (fun a _ => ?_) (fun a s h => by cases h) n (by omega)
 ·have hi' : (i : Int) < l.length := by omega
  have hw := wrap_i i (by omega)
  obtain ⟨A, b⟩ := a
  have hI : A.length ≤ 2 * i := hI
  have hL1 : A.length + 1 ≤ LIM := by simp only [LIM]; omega
  have hL2 : A.length + 1 + 1 ≤ LIM := by simp only [LIM]; omega
  have hb := e_ref11_better (n := n) (d := d) v l[i]
  unfold putF
  by_cases q1 : l[i].node = v.node
  ·have q1' := eq_true q1
   rw [if_pos q1]
   cases hu : aboveBal v l[i]
   ·rw [hu] at hb
    refine ⟨by simp; omega, nextK_some ?_⟩
    simp [xf_ref11_put_b0, xf_ref11_put_k0, S_rp, hi, hi', hw, q1', hb, hL1]
   ·rw [hu] at hb
    refine ⟨by simp; omega, nextK_some ?_⟩
    simp [xf_ref11_put_b0, xf_ref11_put_k0, S_rp, hi, hi', hw, q1', hb, hL1]
  ·have q1' := eq_false q1
   rw [if_neg q1]
   by_cases q2 : v.node < l[i].node
   ·cases b
    ·simp only [q2, and_self, if_true]
     refine ⟨by simp; omega, nextK_some ?_⟩
     simp [xf_ref11_put_b0, xf_ref11_put_k0, S_rp, hi, hi', hw, q1', q2, hL1, hL2]
    ·simp only [q2, true_and, Bool.true_eq_false, if_false]
     refine ⟨by simp; omega, nextK_some ?_⟩
     simp [xf_ref11_put_b0, xf_ref11_put_k0, S_rp, hi, hi', hw, q1', q2, hL1]
   ·simp only [q2, false_and, if_false]
    refine ⟨by simp; omega, nextK_some ?_⟩
    simp [xf_ref11_put_b0, xf_ref11_put_k0, S_rp, hi, hi', hw, q1', q2, hL1]
 ·simp [xf_ref11_put_b0, S_rp]
theorem take_snocB (l : List Ballot) (x : Dat) : (l.map encBal ++ [x]).take (l.length + 1) = l.map encBal ++ [x] := List.take_of_length_le (by simp)
theorem e_ref11_put (l : List Ballot) (v : Ballot) (hl : l.length ≤ 1048577) (hs : l.Pairwise (fun a b => a.node < b.node)) (hn : 1048577 < n) :
  runFn T n (d + 2) 39 [.dat (encBals l), .dat (encBal v)] [] = some (.dat (encBals (putL (·.node) (aboveBal v) v l)), []) := by
 have hL := l_rp (n := n) (d := d) l v hl hn
 have hf := putF_fold (fun x : Ballot => x.node) (aboveBal v) v l [] hs
 have hlen : (putL (fun x : Ballot => x.node) (aboveBal v) v l).length ≤ l.length + 1 := putL_length _ _ _ _
 simp only [List.nil_append] at hf
 generalize putL (fun x : Ballot => x.node) (aboveBal v) v l = P at *
 generalize l.foldl (putF (fun x : Ballot => x.node) (aboveBal v) v) ([], false) = a at *
 obtain ⟨A, b⟩ := a
 simp [S_rp, xf_ref11_put_k0] at hL
 rw [runFn_succ]
 cases b
 ·simp only [Bool.false_eq_true, if_false] at hf
  subst hf
  have hL1 : A.length + 1 ≤ LIM := by simp at hlen; simp only [LIM]; omega
  simp [T, xf_ref11_put, xf_ref11_put_k0, hL, hL1, take_snocB]
 ·simp only [if_true, List.append_nil] at hf
  subst hf
  simp [T, xf_ref11_put, xf_ref11_put_k0, hL]
end Go.Ax
namespace Go.Ax
set_option linter.all false
variable {n d : Nat}
set_option maxRecDepth 10000
set_option linter.unusedSimpArgs false
set_option maxHeartbeats 8000000
theorem bestP_draw (dr : Draw) : ∀ (l : List Ballot) (b : Ballot), (bestP { b with draw := dr } l).log = (bestP b l).log
 | [], b => rfl
 | x :: r, b => by
  have h : betterP x { b with draw := dr } = betterP x b := rfl
  show (bestP (if betterP x { b with draw := dr } = true then x else { b with draw := dr }) r).log = (bestP (if betterP x b = true then x else b) r).log
  rw [h]
  split
  ·rfl
  ·exact bestP_draw dr r b
theorem putL_ne {α : Type} (node : α → Int) (up : α → Bool) (v : α) (l : List α) : putL node up v l ≠ [] := by
 cases l with
 | nil => simp [putL]
 | cons x r =>
  simp only [putL]
  repeat' split
  all_goals simp
def g_ld (a : Ballot × Int) (x : Ballot) : Ballot × Int := (if a.1.last < x.last ∨ x.last = a.1.last ∧ a.1.log.length < x.log.length then x else a.1, if a.2 < x.commit then x.commit else a.2)
theorem g_ld_fold : ∀ (l : List Ballot) (a : Ballot × Int), l.foldl g_ld a = (bestR a.1 l, l.foldl (fun a b => if a < b.commit then b.commit else a) a.2)
 | [], a => rfl
 | x :: r, a => by rw [List.foldl_cons, g_ld_fold r]; rfl
def S_ld (c : Cfg) (s : State) (l : List Ballot) (i : Nat) (a : Ballot × Int) : St := ⟨[(2, .ptr 0 0), (3, .ptr 1 0), (4, .ptr 2 0), (6, .dat (encBals l)), (7, .ptr 3 0), (8, .dat (di a.2)), (9, .dat (di i))], [boxC c, boxS s, boxZ, bxB a.1]⟩
theorem l_ld (c : Cfg) (s : State) (l : List Ballot) (a : Ballot × Int) (cf : CallF) (hl : l.length ≤ 1048577) (hn : 1048577 < n) :
  loopAt (XCode.run cf n 0 xf_ref11_lead_b0) (headOf 0 xf_ref11_lead_k0) n (S_ld c s l 0 a) = some (.exit 0, ⟨[(2, .ptr 0 0), (3, .ptr 1 0), (4, .ptr 2 0), (7, .ptr 3 0), (8, .dat (di (l.foldl g_ld a).2))], [boxC c, boxS s, boxZ, bxB (l.foldl g_ld a).1]⟩) := by
 refine loop_fold (S_ld c s l) (fun _ _ => True) l g_ld (fun a => (.exit 0, ⟨[(2, .ptr 0 0), (3, .ptr 1 0), (4, .ptr 2 0), (7, .ptr 3 0), (8, .dat (di a.2))], [boxC c, boxS s, boxZ, bxB a.1]⟩)) a trivial (fun i a hi _ => ⟨trivial, nextK_some ?_⟩) (fun a _ => ?_) (fun a s h => by cases h) n (by omega)
 ·have hi' : (i : Int) < l.length := by omega
  have hw := wrap_i i (by omega)
  obtain ⟨b, k⟩ := a
  unfold g_ld
  by_cases h5 : k < l[i].commit
  ·by_cases h1 : b.last < l[i].last
   ·simp [xf_ref11_lead_b0, xf_ref11_lead_k0, S_ld, hi, hi', hw, h1, h5]
   ·by_cases h2 : l[i].last = b.last
    ·have h2' := eq_true h2
     by_cases h3 : b.log.length < l[i].log.length
     ·simp [xf_ref11_lead_b0, xf_ref11_lead_k0, S_ld, hi, hi', hw, h1, h2', h3, h5]
     ·simp [xf_ref11_lead_b0, xf_ref11_lead_k0, S_ld, hi, hi', hw, h1, h2', h3, h5]
    ·have h2' := eq_false h2
     simp [xf_ref11_lead_b0, xf_ref11_lead_k0, S_ld, hi, hi', hw, h1, h2', h5]
  ·by_cases h1 : b.last < l[i].last
   ·simp [xf_ref11_lead_b0, xf_ref11_lead_k0, S_ld, hi, hi', hw, h1, h5]
   ·by_cases h2 : l[i].last = b.last
    ·have h2' := eq_true h2
     by_cases h3 : b.log.length < l[i].log.length
     ·simp [xf_ref11_lead_b0, xf_ref11_lead_k0, S_ld, hi, hi', hw, h1, h2', h3, h5]
     ·simp [xf_ref11_lead_b0, xf_ref11_lead_k0, S_ld, hi, hi', hw, h1, h2', h3, h5]
    ·have h2' := eq_false h2
     simp [xf_ref11_lead_b0, xf_ref11_lead_k0, S_ld, hi, hi', hw, h1, h2', h5]
 ·simp [xf_ref11_lead_b0, S_ld]
abbrev ownZ (u : State) : Ballot := ⟨u.self, ⟨0, 0⟩, u.last, u.commit, u.log⟩
theorem ledS0_small {u : State} {log : List Ent} (hs : Small2 u) (hl : log.length ≤ 1048576) : Small2 (ledS0 u log) :=
 ⟨⟨by simp only [ledS0]; omega, hs.vector, by simp [ledS0], by simp [ledS0], by simp [ledS0], by simp [ledS0], by simp [ledS0], by simp [ledS0]⟩, hl, hs.vector2, by simp [ledS0], by simp [ledS0]⟩
theorem sv_small {u : State} {log : List Ent} {k : Int} (hl : log.length ≤ 1048576) : SmallM (svM u log k) := ⟨by simpa [svM] using hl, by simp [svM, zeroM]⟩
theorem best_log {u : State} (hs : Small2 u) (own : Ballot) (ho : own.log = u.log) : (bestP own u.ballots).log.length ≤ 1048576 := by
 rcases bestP_mem u.ballots own with h | h
 ·rw [h, ho]; exact hs.log2
 ·exact hs.blogs2 _ h
theorem doc_best (u : State) (hsort : u.ballots.Pairwise (fun a b => a.node < b.node)) (hne : ∀ b ∈ u.ballots, b.node ≠ u.self) (h0 : 0 ≤ u.commit) :
  ∃ b0 r, putL (·.node) (aboveBal (ownZ u)) (ownZ u) u.ballots = b0 :: r ∧ bestR b0 (b0 :: r) = bestP (ownZ u) u.ballots ∧ mostR (b0 :: r) = mostP (ownZ u) u.ballots := by
 cases hp : putL (·.node) (aboveBal (ownZ u)) (ownZ u) u.ballots with
 | nil => exact absurd hp (putL_ne _ _ _ _)
 | cons b0 r =>
  refine ⟨b0, r, rfl, ?_, ?_⟩
  ·have := best_same (ownZ u) u.ballots (aboveBal (ownZ u)) hsort hne b0 r hp
   rw [← this]
   have : bestR b0 (b0 :: r) = bestR (if b0.last < b0.last ∨ b0.last = b0.last ∧ b0.log.length < b0.log.length then b0 else b0) r := rfl
   rw [this]
   simp
  ·have hm := putL_perm (fun b : Ballot => b.node) (aboveBal (ownZ u)) (ownZ u) u.ballots hne
   rw [hp] at hm
   exact most_same (ownZ u) u.ballots (b0 :: r) hm h0
theorem chosen_min (own : Ballot) (l : List Ballot) (h0 : 0 ≤ own.commit) : chosen own l = if ((bestP own l).log.length : Int) < mostP own l then ((bestP own l).log.length : Int) else mostP own l := by
 have := (fold_max_mem l own.commit).1
 have hm : l.foldl (fun a b => max a b.commit) own.commit = mostP own l := rfl
 rw [hm] at this
 unfold chosen
 split <;> omega
theorem chosen_own (u : State) : chosen (ownBal u) u.ballots = chosen (ownZ u) u.ballots := by
 have hdr : (bestP (ownBal u) u.ballots).log = (bestP (ownZ u) u.ballots).log := bestP_draw (drawAt u u.self) u.ballots (ownZ u)
 unfold chosen
 rw [hdr]
 rfl
theorem min_if (a b : Int) : min a b = if b < a then b else a := by split <;> omega
theorem e_ref11_lead (c : Cfg) (u : State) (vo : VoteOk u) (hn : 1048577 < n) :
  runFn T n (d + 9) 41 [.dat (encCfg c), .dat (encS u)] [] = some (.tup [.agg ((cellsS (leadS c u)).map .dat), .own 0 0 (leadL c u).length], [.arr 98 19 false false ((leadL c u).map encSd)]) := by
 obtain ⟨hs, hsort, hne, h0, hsh⟩ := vo
 obtain ⟨b0, r, hp, hb, hm⟩ := doc_best u hsort hne h0
 have e1 := e_ref11_put (n := n) (d := d + 6) u.ballots (ownZ u) (by have := hs.ballots; omega) hsort hn
 rw [hp] at e1
 have hlen : (b0 :: r).length ≤ u.ballots.length + 1 := by rw [← hp]; exact putL_length _ _ _ _
 have hL := l_ld (n := n) c u (b0 :: r) (b0, 0) (runFn T n (d + 8)) (by omega) hn
 rw [g_ld_fold] at hL
 have hm' : (b0 :: r).foldl (fun a b => if a < b.commit then b.commit else a) 0 = mostP (ownZ u) u.ballots := hm
 simp only [hb, hm'] at hL
 have hlog := best_log hs (ownZ u) rfl
 have hdr : (bestP (ownBal u) u.ballots).log = (bestP (ownZ u) u.ballots).log := bestP_draw (drawAt u u.self) u.ballots (ownZ u)
 unfold leadS leadL
 rw [chosen_own, chosen_min _ _ h0, hdr]
 generalize bestP (ownZ u) u.ballots = B at *
 generalize mostP (ownZ u) u.ballots = K at *
 have bare := e_ref11_bare (n := n) (d := d + 5) u hs.toSmall hn
 have cp := e_plain_CopyEntries (n := n) (d := d + 7) B.log (by omega)
 have hsm := ledS0_small (u := u) hs hlog
 have hz : (⟨#[]⟩ : ByteArray) = ByteArray.empty := rfl
 have hll : B.log.length ≤ LIM := by simp only [LIM]; omega
 simp [S_ld, xf_ref11_lead_k0] at hL
 simp [bareS, encS, cellsS, encAcks, encMarks, encBals, encAnss] at bare
 have key : ∀ k : Int, k = (if (B.log.length : Int) < K then (B.log.length : Int) else K) → runFn T n (d + 9) 41 [.dat (encCfg c), .dat (encS u)] [] = some (.tup [.agg ((cellsS (carryS c (ledS0 u B.log) k)).map .dat), .own 0 0 (allR c (ledS0 u B.log) (svM u B.log k) ++ carryL c (ledS0 u B.log) k).length], [.arr 98 19 false false ((allR c (ledS0 u B.log) (svM u B.log k) ++ carryL c (ledS0 u B.log) k).map encSd)]) := by
  intro k hk
  rw [runFn_succ]
  have h3 := e_ref09_Carry (n := n) (d := d) c (ledS0 u B.log) k hsm.toSmall hn
  have hcl := (carryL_small c (ledS0 u B.log) k).1
  have hmin := min_if u.commit B.log.length
  have h2 : (∃ L1 : List Send, L1.length ≤ 100 ∧ allR c (ledS0 u B.log) (svM u B.log k) = L1 ∧ runFn T n (d + 8) 52 [.dat (encCfg c), .dat (encS (ledS0 u B.log)), .dat (encM (svM u B.log k))] [] = some (.tup [.own 0 0 L1.length, .dat (di 0)], [.arr 98 19 false false (L1.map encSd)])) ∨
    (∃ e : Int, allR c (ledS0 u B.log) (svM u B.log k) = [] ∧ runFn T n (d + 8) 52 [.dat (encCfg c), .dat (encS (ledS0 u B.log)), .dat (encM (svM u B.log k))] [] = some (.tup [.nil 98 19 false, .dat (di e)], [])) := by
   by_cases he : stateErr c (ledS0 u B.log) = 0
   ·exact .inl ⟨_, allS_len', if_pos he, eo_ref09_All (n := n) (d := d) c (ledS0 u B.log) (svM u B.log k) hsm (sv_small hlog) hn he⟩
   ·exact .inr ⟨_, if_neg he, eo_ref09_All_no (n := n) (d := d) c (ledS0 u B.log) (svM u B.log k) hsm hn he⟩
  generalize carryS c (ledS0 u B.log) k = X at *
  generalize carryL c (ledS0 u B.log) k = L2 at *
  generalize carryErr c (ledS0 u B.log) k = CE at *
  have hL2 : L2.length ≤ LIM := by simp only [LIM]; omega
  rcases h2 with ⟨L1, hal, hA, h2⟩ | ⟨e, hA, h2⟩
  all_goals
   rw [hA]
   by_cases q2 : (B.log.length : Int) < u.commit <;> by_cases q : (B.log.length : Int) < K
  all_goals
   simp only [q, q2, if_true, if_false] at hk hmin
   subst hk
   simp [ledS0, svM, zeroM, encM, cellsM, encLog, encV, encS, cellsS, encAcks, encMarks, encBals, encAnss, hmin] at h2 h3
   try have hLL : L1.length + L2.length ≤ LIM := by simp only [LIM]; omega
   first
    | simp (maxSteps := 1000000) [T, xf_ref11_lead, xf_ref11_lead_k0, e1, hL, bare, cp, h2, h3, q, q2, hz, hLL]; done
    | simp (maxSteps := 1000000) [T, xf_ref11_lead, xf_ref11_lead_k0, e1, hL, bare, cp, h2, h3, q, q2, hz, hL2]
 exact key _ rfl
theorem leadL_len (c : Cfg) (u : State) : (leadL c u).length ≤ 1048677 := by
 unfold leadL
 have h1 := (carryL_small c (ledS0 u (bestP (ownBal u) u.ballots).log) (chosen (ownBal u) u.ballots)).1
 have h2 : (allR c (ledS0 u (bestP (ownBal u) u.ballots).log) (svM u (bestP (ownBal u) u.ballots).log (chosen (ownBal u) u.ballots))).length ≤ 100 := by
  unfold allR
  split
  ·exact allS_len'
  ·simp
 rw [List.length_append]
 omega
theorem goL_len (c : Cfg) (t : State) (v : Int) : (goL c t v).length ≤ 100 := by
 unfold goL allR
 split
 ·exact allS_len'
 ·simp
end Go.Ax
namespace Go.Ax
set_option linter.all false
variable {n d : Nat}
set_option maxRecDepth 10000
set_option linter.unusedSimpArgs false
set_option maxHeartbeats 16000000
theorem e_ref11_Vote (c : Cfg) (s : State) (m : Msg) (hs : Small2 s) (hm : SmallM m) (hn : 2097157 < n) :
  runFn T n (d + 10) 15 [.dat (encCfg c), .dat (encS s), .dat (encM m)] [] = some (.tup [.dat (encS (callS 7 c s m)), .dat (encSds (callL 7 c s m)), .dat (di (kErr c s m 7))], []) := by
 have ad := e_ref11_admitted (n := n) (d := d) c s m 7 hs.toSmall (by have := hm.log; omega) (by omega)
 rw [runFn_succ]
 unfold callS callL
 by_cases hk : kErr c s m 7 = 0
 ·obtain ⟨he, hkd, hme⟩ := kErr_zero hk
  rw [hk] at ad ⊢
  simp only [ne_eq, not_true_eq_false, if_false] at ad ⊢
  have hok := admS_ok he hme
  have hsm := hs.adm he hme
  have hnod := nodes_ok hok
  obtain ⟨gc, gn1, gn2, gv1, gv2, _⟩ := msg_nums hme
  have hsf := admS_self he hme
  have hBn : admB c s m = true → m.node ≠ (admS c s m).self := fun h => by rw [hsf]; exact admB_node h (between_kind hkd (by omega))
  generalize admS c s m = t at *
  generalize admB c s m = B at *
  obtain ⟨_, g1, g2, g3, _⟩ := hnod
  simp only [NN] at g1 g3 gn2
  have hvn : m.node.toNat < t.vector.length := by omega
  have hvn' : m.node < t.vector.length := by omega
  cases B
  ·simp [T, xf_ref11_Vote, ad]
  ·have hne := hBn rfl
   simp only [Bool.true_eq_false, if_false]
   unfold stepS stepL
   by_cases h3 : t.status = 3
   ·have h3' := eq_true h3
    rw [if_pos (.inl h3), if_pos (.inl h3)]
    simp [T, xf_ref11_Vote, ad, h3']
   ·have h3' := eq_false h3
    by_cases hst : stale t m
    ·rw [if_pos (.inr hst), if_pos (.inr hst)]
     by_cases v1 : m.view < t.view
     ·simp [T, xf_ref11_Vote, ad, h3', v1]
     ·have v2 : m.view = t.view ∧ t.status = 1 := by unfold stale at hst; rcases hst with h | h; exact absurd h v1; exact h
      have v2' := eq_true v2.1
      have v3' := eq_true v2.2
      simp [T, xf_ref11_Vote, ad, h3', v1, v2', v3']
    ·have hns : ¬ (t.status = 3 ∨ stale t m) := fun h => h.elim h3 hst
     rw [if_neg hns, if_neg hns, if_neg (show ¬ (7 : Int) = 6 by decide), if_neg (show ¬ (7 : Int) = 6 by decide), if_pos rfl, if_pos rfl]
     have v1 : ¬ m.view < t.view := fun h => hst (.inl h)
     have hd : drawAt t m.node = t.vector[m.node.toNat] := by simp [drawAt, List.getD, hvn]
     have vo := vote_ok (c := c) hsm hm hok hne
     have hdoc := putBal_doc m hok
     have hbv : balOf t m = ⟨m.node, t.vector[m.node.toNat], m.last, m.commit, m.log⟩ := by unfold balOf; rw [hd]
     have hcp := e_plain_CopyEntries (n := n) (d := d + 8) m.log (by have := hm.log; omega)
     have hml : m.log.length ≤ LIM := by have := hm.log; simp only [LIM]; omega
     have hfs := first_sorted (m := m) hok
     have hfsh := (first_short (m := m) hok).2
     have hput := e_ref11_put (n := n) (d := d + 7) (firstS2 c t m).ballots (balOf t m) (by omega) hfs.1 (by omega)
     rw [hdoc] at hput
     by_cases v2 : m.view = t.view
     ·have v3 : ¬ t.status = 1 := fun h => hst (.inr ⟨v2, h⟩)
      have v2' := eq_true v2
      have v3' := eq_false v3
      have v4 : ¬ t.view < m.view := by omega
      have hf : firstS2 c t m = t := by unfold firstS2; rw [if_neg v4]
      have hfl : firstL c t m = [] := by unfold firstL; rw [if_neg v4]
      have pr := e_ref09_Primary (n := n) (d := d + 5) c t.view
      unfold votedS votedL
      rw [hf] at hput ⊢
      rw [hfl, List.nil_append]
      by_cases hp : primaryOf c t.view = t.self
      ·rw [if_neg (not_not_intro hp), if_neg (not_not_intro hp)]
       rw [hp] at pr
       have hvs : voteS c t m = { t with ballots := putBal t.ballots (balOf t m) } := by unfold voteS; rw [hf]
       rw [hvs] at vo ⊢
       rw [hbv] at hput vo ⊢
       generalize putBal t.ballots ⟨m.node, t.vector[m.node.toNat], m.last, m.commit, m.log⟩ = P at *
       by_cases q : c.f ≤ P.length
       ·rw [if_pos q, if_pos q]
        have q' : ¬ (P.length : Int) < c.f := by omega
        have ld := e_ref11_lead (n := n) (d := d) c { t with ballots := P } vo (by omega)
        have hLL := leadL_len c { t with ballots := P }
        generalize leadS c { t with ballots := P } = X at *
        generalize leadL c { t with ballots := P } = L at *
        have hL1 : L.length ≤ LIM := by simp only [LIM]; omega
        simp [encS, cellsS, encBals] at ld
        simp (maxSteps := 1000000) [T, xf_ref11_Vote, ad, h3', v1, v2', v3', v4, pr, hput, hcp, hvn, hvn', gn1, hml, q', ld, hL1]
       ·rw [if_neg q, if_neg q]
        have q' : (P.length : Int) < c.f := by omega
        simp (maxSteps := 1000000) [T, xf_ref11_Vote, ad, h3', v1, v2', v3', v4, pr, hput, hcp, hvn, hvn', gn1, hml, q']
      ·rw [if_pos hp, if_pos hp]
       have hp' := eq_false hp
       simp (maxSteps := 1000000) [T, xf_ref11_Vote, ad, h3', v1, v2', v3', v4, pr, hp']
     ·have v4 : t.view < m.view := by omega
      have v2' := eq_false v2
      have hf : firstS2 c t m = goS t m.view := by unfold firstS2; rw [if_pos v4]
      have hfl : firstL c t m = goL c t m.view := by unfold firstL; rw [if_pos v4]
      have hgs := go_small2 hsm m.view
      have hgo := go_ok hok (view := m.view) ⟨v4, gv2⟩
      have hgl : (goL c t m.view).length ≤ 100 := goL_len c t m.view
      have g := e_ref11_goTo (n := n) (d := d) c t m.view hsm (by omega) hgo
      have pr := e_ref09_Primary (n := n) (d := d + 5) c m.view
      unfold votedS votedL
      rw [hf] at hput ⊢
      rw [hfl]
      rw [show (goS t m.view).view = m.view from rfl]
      simp [goS, encS, cellsS, encAcks, encMarks, encBals, encAnss] at g
      have hvs : voteS c t m = { goS t m.view with ballots := putBal [] (balOf t m) } := by unfold voteS; rw [hf]; rfl
      rw [hvs] at vo ⊢
      rw [show (goS t m.view).ballots = [] from rfl] at hput
      rw [hbv] at hput vo ⊢
      generalize hGL : goL c t m.view = G at *
      have hG : G.length ≤ LIM := by simp only [LIM]; omega
      by_cases hp : primaryOf c m.view = t.self
      ·rw [if_neg (not_not_intro hp), if_neg (not_not_intro hp)]
       rw [hp] at pr
       generalize putBal [] ⟨m.node, t.vector[m.node.toNat], m.last, m.commit, m.log⟩ = P at *
       simp [encBals] at hput
       by_cases q : c.f ≤ P.length
       ·rw [if_pos q, if_pos q]
        have q' : ¬ (P.length : Int) < c.f := by omega
        have ld := e_ref11_lead (n := n) (d := d) c { goS t m.view with ballots := P } vo (by omega)
        have hLL := leadL_len c { goS t m.view with ballots := P }
        generalize leadS c { goS t m.view with ballots := P } = X at *
        generalize leadL c { goS t m.view with ballots := P } = L at *
        have hL1 : G.length + L.length ≤ LIM := by simp only [LIM]; omega
        simp [goS, encS, cellsS, encAcks, encMarks, encBals, encAnss] at ld
        simp (maxSteps := 1000000) [T, xf_ref11_Vote, ad, h3', v1, v2', v4, g, pr, hput, hcp, hvn, hvn', gn1, hml, q', ld, hL1, hG, goS]
        exact List.take_of_length_le (by simp)
       ·rw [if_neg q, if_neg q]
        have q' : (P.length : Int) < c.f := by omega
        simp (maxSteps := 1000000) [T, xf_ref11_Vote, ad, h3', v1, v2', v4, g, pr, hput, hcp, hvn, hvn', gn1, hml, q', hG, goS]
      ·rw [if_pos hp, if_pos hp]
       have hp' := eq_false hp
       simp (maxSteps := 1000000) [T, xf_ref11_Vote, ad, h3', v1, v2', v4, g, pr, hp', hG, goS]
 ·simp only [ne_eq, hk, not_false_eq_true, if_true] at ad ⊢
  generalize kErr c s m 7 = K at *
  simp [T, xf_ref11_Vote, ad, hk, zeroS]
end Go.Ax
namespace Go.Ax
set_option linter.all false
variable {n d : Nat}
set_option maxRecDepth 10000
set_option linter.unusedSimpArgs false
set_option maxHeartbeats 8000000
abbrev abBallot (v x : Ballot) : Bool := aboveBal v x
theorem e_tally_longer (l : List Ent) (a : Int) (k : List Ent) (b : Int) : runFn T n (d + 1) 207 [.dat (encLog l), .dat (di a), .dat (encLog k), .dat (di b)] [] = some (.dat (.bool (longerB l a k b)), []) := by
 rw [runFn_succ]
 unfold longerB
 have h : decide ((l.length : Int) = k.length) = decide (l.length = k.length) := by
  by_cases h : l.length = k.length
  ·rw [decide_eq_true h, decide_eq_true (by omega)]
  ·rw [decide_eq_false h, decide_eq_false (by omega)]
 simp [T, xf_tally_longer, h]
theorem e_ballot_above (v x : Ballot) : runFn T n (d + 2) 204 [.dat (encBal v), .dat (encBal x)] [] = some (.dat (.bool (abBallot v x)), []) := by
 have h := e_tally_longer (n := n) (d := d) v.log v.commit x.log x.commit
 rw [runFn_succ]
 unfold abBallot aboveBal
 by_cases h1 : v.last = x.last
 ·have h1' := eq_true h1
  have h2 : ¬ v.last ≠ x.last := by simp [h1]
  rw [if_neg h2]
  simp [T, xf_tally_ballot_above, h, h1']
 ·have h1' := eq_false h1
  rw [if_pos h1]
  simp [T, xf_tally_ballot_above, h1']
abbrev bxv_ballot (x : Ballot) : Blk := .box [.dat (di x.node), .dat (du x.draw.hi), .dat (du x.draw.lo), .dat (di x.last), .dat (di x.commit), .dat (encLog x.log)]
def upv_ballot (v x : Ballot) : Bool := decide (0 < cmp v.draw x.draw) || decide (cmp v.draw x.draw = 0) && abBallot v x
theorem p0_ballot (l : List Ballot) (v : Ballot) (hl : l.length ≤ 1048577) (hn : 1048577 < n) :
  (∃ j, ∃ hj : j < l.length, l[j].node = v.node ∧ loopAt (XCode.run (runFn T n (d + 2)) n 0 xf_tally_box_ballot_put_b0) (headOf 0 xf_tally_box_ballot_put_k0) n ⟨[(2, .ptr 0 0), (3, .ptr 1 0), (5, .dat (di l.length)), (6, .dat (.bool false)), (19, .dat (encBals l)), (20, .dat (di l.length)), (21, .dat (di 0))], [.box [.dat (encBals l)], bxv_ballot v]⟩ = some (.exit 0, ⟨[(2, .ptr 0 0), (3, .ptr 1 0), (5, .dat (di j)), (6, .dat (.bool true))], [.box [.dat (encBals l)], bxv_ballot v, bxv_ballot l[j]]⟩)) ∨
  ((∀ x ∈ l, x.node ≠ v.node) ∧ loopAt (XCode.run (runFn T n (d + 2)) n 0 xf_tally_box_ballot_put_b0) (headOf 0 xf_tally_box_ballot_put_k0) n ⟨[(2, .ptr 0 0), (3, .ptr 1 0), (5, .dat (di l.length)), (6, .dat (.bool false)), (19, .dat (encBals l)), (20, .dat (di l.length)), (21, .dat (di 0))], [.box [.dat (encBals l)], bxv_ballot v]⟩ = some (.exit 0, ⟨[(2, .ptr 0 0), (3, .ptr 1 0), (5, .dat (di l.length)), (6, .dat (.bool false))], [.box [.dat (encBals l)], bxv_ballot v]⟩)) := by
 have main := loop_until (body := XCode.run (runFn T n (d + 2)) n 0 xf_tally_box_ballot_put_b0) (head := headOf 0 xf_tally_box_ballot_put_k0) (fun i => ⟨[(2, .ptr 0 0), (3, .ptr 1 0), (5, .dat (di l.length)), (6, .dat (.bool false)), (19, .dat (encBals l)), (20, .dat (di l.length)), (21, .dat (di i))], [.box [.dat (encBals l)], bxv_ballot v]⟩) l.length (.exit 0, ⟨[(2, .ptr 0 0), (3, .ptr 1 0), (5, .dat (di l.length)), (6, .dat (.bool false))], [.box [.dat (encBals l)], bxv_ballot v]⟩) (fun i => (l[i]?.map (·.node)) = some v.node)
  (fun i => (.exit 0, ⟨[(2, .ptr 0 0), (3, .ptr 1 0), (5, .dat (di i)), (6, .dat (.bool true))], [.box [.dat (encBals l)], bxv_ballot v, bxv_ballot (l.getD i default)]⟩)) (fun i hi hs => nextK_some ?_) (fun i hi hs => ⟨?_, fun s h => by cases h⟩) ?_ (fun s h => by cases h) l.length n 0 (by omega) (by omega)
 ·rcases main with ⟨j, _, hj, hs, _, e⟩ | ⟨hs, e⟩
  ·refine .inl ⟨j, hj, by simpa [hj] using hs, ?_⟩
   have hg : l.getD j default = l[j] := by simp [List.getD, hj]
   rw [hg] at e
   exact e
  ·refine .inr ⟨fun x hx h => ?_, e⟩
   obtain ⟨j, hj, rfl⟩ := List.mem_iff_getElem.1 hx
   exact hs j (Nat.zero_le _) hj (by simp [hj, h])
 ·have hi' : (i : Int) < l.length := by omega
  have hw := wrap_i i (by omega)
  have e1 := e_ballot_node (n := n) (d := d + 1) l[i]
  have e2 := e_ballot_node (n := n) (d := d + 1) v
  have hs' : ¬ l[i].node = v.node := by simpa [hi] using hs
  simp [xf_tally_box_ballot_put_b0, xf_tally_box_ballot_put_k0, hi, hi', hw, e1, e2, hs']
 ·have hi' : (i : Int) < l.length := by omega
  have e1 := e_ballot_node (n := n) (d := d + 1) l[i]
  have e2 := e_ballot_node (n := n) (d := d + 1) v
  have hs' : l[i].node = v.node := by simpa [hi] using hs
  have hs'' := eq_true hs'
  simp [xf_tally_box_ballot_put_b0, hi, hi', e1, e2, hs'']
 ·simp [xf_tally_box_ballot_put_b0]
theorem p1_ballot (l : List Ballot) (v : Ballot) (hl : l.length ≤ 1048577) (hn : 1048577 < n) : ∃ j H, j ≤ l.length ∧ (∀ q (hq : q < l.length), q < j → ¬ v.node < l[q].node) ∧ (∀ hq : j < l.length, v.node < l[j].node) ∧
  loopAt (XCode.run (runFn T n (d + 2)) n 0 xf_tally_box_ballot_put_b1) (headOf 0 xf_tally_box_ballot_put_k1) n ⟨[(2, .ptr 0 0), (3, .ptr 1 0), (5, .dat (di l.length)), (6, .dat (.bool false)), (38, .dat (encBals l)), (39, .dat (di l.length)), (40, .dat (di 0))], [.box [.dat (encBals l)], bxv_ballot v]⟩ = some (.exit 2, ⟨[(2, .ptr 0 0), (3, .ptr 1 0), (5, .dat (di j)), (6, .dat (.bool false))], H⟩) ∧ (H = [.box [.dat (encBals l)], bxv_ballot v] ∨ ∃ x, H = [.box [.dat (encBals l)], bxv_ballot v, bxv_ballot x]) := by
 have main := loop_until (body := XCode.run (runFn T n (d + 2)) n 0 xf_tally_box_ballot_put_b1) (head := headOf 0 xf_tally_box_ballot_put_k1) (fun i => ⟨[(2, .ptr 0 0), (3, .ptr 1 0), (5, .dat (di l.length)), (6, .dat (.bool false)), (38, .dat (encBals l)), (39, .dat (di l.length)), (40, .dat (di i))], [.box [.dat (encBals l)], bxv_ballot v]⟩) l.length (.exit 2, ⟨[(2, .ptr 0 0), (3, .ptr 1 0), (5, .dat (di l.length)), (6, .dat (.bool false))], [.box [.dat (encBals l)], bxv_ballot v]⟩) (fun i => ∃ h : i < l.length, v.node < l[i].node)
  (fun i => (.exit 2, ⟨[(2, .ptr 0 0), (3, .ptr 1 0), (5, .dat (di i)), (6, .dat (.bool false))], [.box [.dat (encBals l)], bxv_ballot v, bxv_ballot (l.getD i default)]⟩)) (fun i hi hs => nextK_some ?_) (fun i hi hs => ⟨?_, fun s h => by cases h⟩) ?_ (fun s h => by cases h) l.length n 0 (by omega) (by omega)
 ·rcases main with ⟨j, _, hj, ⟨_, hs⟩, hq, e⟩ | ⟨hs, e⟩
  ·exact ⟨j, _, by omega, fun q h1 h2 h3 => hq q (Nat.zero_le _) h2 ⟨h1, h3⟩, fun _ => hs, e, .inr ⟨_, rfl⟩⟩
  ·exact ⟨l.length, _, Nat.le_refl _, fun q h1 h2 h3 => hs q (Nat.zero_le _) h1 ⟨h1, h3⟩, fun h => absurd h (by omega), e, .inl rfl⟩
 ·have hi' : (i : Int) < l.length := by omega
  have hw := wrap_i i (by omega)
  have e1 := e_ballot_node (n := n) (d := d + 1) l[i]
  have e2 := e_ballot_node (n := n) (d := d + 1) v
  have hs' : ¬ v.node < l[i].node := fun h => hs ⟨hi, h⟩
  simp [xf_tally_box_ballot_put_b1, xf_tally_box_ballot_put_k1, hi, hi', hw, e1, e2, hs']
 ·have hi' : (i : Int) < l.length := by omega
  have e1 := e_ballot_node (n := n) (d := d + 1) l[i]
  have e2 := e_ballot_node (n := n) (d := d + 1) v
  obtain ⟨_, hs'⟩ := hs
  simp [xf_tally_box_ballot_put_b1, hi, hi', e1, e2, hs']
 ·simp [xf_tally_box_ballot_put_b1]
def S_p2_ballot (l : List Ballot) (v : Ballot) (at_ : Int) (b : Bool) (out : List Ballot) (i : Nat) : St := ⟨[(2, .ptr 0 0), (3, .ptr 1 0), (5, .dat (di at_)), (6, .dat (.bool b)), (11, .own 2 0 out.length), (55, .dat (encBals l)), (56, .dat (di l.length)), (57, .dat (di i))], [.box [.dat (encBals l)], bxv_ballot v, .arr 218 6 false false (out.map encBal)]⟩
theorem p2s_ballot (l : List Ballot) (v : Ballot) (hl : l.length ≤ 1048577) (hg : ∀ x ∈ l, x.log.length ≤ 1048577) (hgv : v.log.length ≤ 1048577) (j : Nat) (hj : j < l.length) (hn : 1048577 < n) :
  loopAt (XCode.run (runFn T n (d + 2)) n 0 xf_tally_box_ballot_put_b2) (headOf 0 xf_tally_box_ballot_put_k2) n (S_p2_ballot l v j true [] 0) = some (.exit 4, ⟨[(2, .ptr 0 0), (3, .ptr 1 0), (5, .dat (di j)), (11, .own 2 0 l.length)], (S_p2_ballot l v j true (l.set j (if upv_ballot v l[j] then v else l[j])) 0).H⟩) := by
 have hlen : ∀ i, i ≤ l.length → ((l.set j (if upv_ballot v l[j] then v else l[j])).take i).length = i := fun i hi => by simp; omega
 have main := loop_for (body := XCode.run (runFn T n (d + 2)) n 0 xf_tally_box_ballot_put_b2) (head := headOf 0 xf_tally_box_ballot_put_k2) (fun i => S_p2_ballot l v j true ((l.set j (if upv_ballot v l[j] then v else l[j])).take i) i) l.length (.exit 4, ⟨[(2, .ptr 0 0), (3, .ptr 1 0), (5, .dat (di j)), (11, .own 2 0 l.length)], (S_p2_ballot l v j true (l.set j (if upv_ballot v l[j] then v else l[j])) 0).H⟩) (fun i hi => nextK_some ?_) ?_ (fun s h => by simp [S_p2_ballot] at h) n (by omega)
 ·rw [List.take_zero] at main; exact main
 ·have hi' : (i : Int) < l.length := by omega
  have hw := wrap_i i (by omega)
  have hL : i + 1 ≤ LIM := by simp only [LIM]; omega
  have hsn : (l.set j (if upv_ballot v l[j] then v else l[j])).take (i + 1) = (l.set j (if upv_ballot v l[j] then v else l[j])).take i ++ [(l.set j (if upv_ballot v l[j] then v else l[j]))[i]'(by simp; omega)] := List.take_succ_eq_append_getElem (by simp; omega)
  rw [hsn]
  have hl0 := hlen i (by omega)
  have e3 := e_ballot_fresh (n := n) (d := d + 1) l[i] (hg _ (List.getElem_mem hi))
  have e4 := e_ballot_fresh (n := n) (d := d + 1) v hgv
  by_cases hij : i = j
  ·subst hij
   have e5 := e_ballot_draw (n := n) (d := d + 1) l[i]
   have e6 := e_ballot_draw (n := n) (d := d + 1) v
   have e7 := p43 (n := n) (d := d + 1) v.draw l[i].draw
   have e8 := e_ballot_above (n := n) (d := d) v l[i]
   have hget : (l.set i (if upv_ballot v l[i] then v else l[i]))[i]'(by simp; omega) = (if upv_ballot v l[i] then v else l[i]) := by simp
   rw [hget]
   generalize (l.set i (if upv_ballot v l[i] then v else l[i])).take i = out at hl0 ⊢
   unfold upv_ballot
   by_cases c1 : 0 < cmp v.draw l[i].draw
   ·simp [xf_tally_box_ballot_put_b2, xf_tally_box_ballot_put_k2, S_p2_ballot, hi, hi', hw, hL, hl0, e3, e4, e5, e6, e7, c1]
   ·by_cases c2 : cmp v.draw l[i].draw = 0
    ·have c2' := eq_true c2
     cases c3 : abBallot v l[i]
     ·(try rw [c3] at e8)
      simp [xf_tally_box_ballot_put_b2, xf_tally_box_ballot_put_k2, S_p2_ballot, hi, hi', hw, hL, hl0, e3, e4, e5, e6, e7, e8, c1, c2', c3]
     ·(try rw [c3] at e8)
      (try cases c3)
      try simp [xf_tally_box_ballot_put_b2, xf_tally_box_ballot_put_k2, S_p2_ballot, hi, hi', hw, hL, hl0, e3, e4, e5, e6, e7, e8, c1, c2', c3]
    ·have c2' := eq_false c2
     simp [xf_tally_box_ballot_put_b2, xf_tally_box_ballot_put_k2, S_p2_ballot, hi, hi', hw, hL, hl0, e3, e4, e5, e6, e7, c1, c2']
  ·have hget : (l.set j (if upv_ballot v l[j] then v else l[j]))[i]'(by simp; omega) = l[i] := by rw [List.getElem_set_ne (by omega)]
   rw [hget]
   generalize (l.set j (if upv_ballot v l[j] then v else l[j])).take i = out at hl0 ⊢
   have hij' := eq_false hij
   have hij2 : ((i : Int) = j) = False := eq_false (by omega)
   simp [xf_tally_box_ballot_put_b2, xf_tally_box_ballot_put_k2, S_p2_ballot, hi, hi', hw, hL, hl0, e3, hij', hij2]
 ·have := hlen l.length (Nat.le_refl _)
  rw [List.take_of_length_le (by simp)]
  simp [xf_tally_box_ballot_put_b2, S_p2_ballot]
def outN_ballot (l : List Ballot) (v : Ballot) (j i : Nat) : List Ballot := if i ≤ j then l.take i else l.take j ++ v :: (l.take i).drop j
theorem p2n_ballot (l : List Ballot) (v : Ballot) (hl : l.length ≤ 1048577) (hg : ∀ x ∈ l, x.log.length ≤ 1048577) (hgv : v.log.length ≤ 1048577) (j : Nat) (hj : j ≤ l.length) (hn : 1048577 < n) :
  loopAt (XCode.run (runFn T n (d + 2)) n 0 xf_tally_box_ballot_put_b2) (headOf 0 xf_tally_box_ballot_put_k2) n (S_p2_ballot l v j false [] 0) = some (.exit 4, ⟨[(2, .ptr 0 0), (3, .ptr 1 0), (5, .dat (di j)), (11, .own 2 0 (outN_ballot l v j l.length).length)], (S_p2_ballot l v j false (outN_ballot l v j l.length) 0).H⟩) := by
 have main := loop_for (body := XCode.run (runFn T n (d + 2)) n 0 xf_tally_box_ballot_put_b2) (head := headOf 0 xf_tally_box_ballot_put_k2) (fun i => S_p2_ballot l v j false (outN_ballot l v j i) i) l.length (.exit 4, ⟨[(2, .ptr 0 0), (3, .ptr 1 0), (5, .dat (di j)), (11, .own 2 0 (outN_ballot l v j l.length).length)], (S_p2_ballot l v j false (outN_ballot l v j l.length) 0).H⟩) (fun i hi => nextK_some ?_) ?_ (fun s h => by simp [S_p2_ballot] at h) n (by omega)
 ·have : outN_ballot l v j 0 = [] := by simp [outN_ballot]
  rw [this] at main; exact main
 ·have hi' : (i : Int) < l.length := by omega
  have hw := wrap_i i (by omega)
  have hle : (outN_ballot l v j i).length ≤ i + 1 := by unfold outN_ballot; split <;> simp <;> omega
  have e3 := e_ballot_fresh (n := n) (d := d + 1) l[i] (hg _ (List.getElem_mem hi))
  have e4 := e_ballot_fresh (n := n) (d := d + 1) v hgv
  have hL : (outN_ballot l v j i).length + 1 ≤ LIM := by simp only [LIM]; omega
  have hL2 : (outN_ballot l v j i).length + 1 + 1 ≤ LIM := by simp only [LIM]; omega
  by_cases hij : i = j
  ·have hsn : outN_ballot l v j (i + 1) = outN_ballot l v j i ++ [v] ++ [l[i]] := by
    subst hij
    unfold outN_ballot
    rw [if_neg (by omega), if_pos (Nat.le_refl _), List.take_succ_eq_append_getElem hi, List.drop_append_of_le_length (by simp; omega), List.drop_eq_nil_of_le (by simp; omega)]
    simp only [List.nil_append, List.append_assoc, List.singleton_append]
   rw [hsn]
   generalize outN_ballot l v j i = out at *
   have hij' := eq_true hij
   subst hij
   simp [xf_tally_box_ballot_put_b2, xf_tally_box_ballot_put_k2, S_p2_ballot, hi, hi', hw, hL, hL2, e3, e4]
  ·have hsn : outN_ballot l v j (i + 1) = outN_ballot l v j i ++ [l[i]] := by
    by_cases h1 : i < j
    ·unfold outN_ballot
     rw [if_pos (by omega), if_pos (by omega), List.take_succ_eq_append_getElem hi]
    ·unfold outN_ballot
     rw [if_neg (by omega), if_neg (by omega), List.take_succ_eq_append_getElem hi, List.drop_append_of_le_length (by simp; omega)]
     simp only [List.append_assoc, List.cons_append]
   rw [hsn]
   generalize outN_ballot l v j i = out at *
   have hij' := eq_false hij
   have hij2 : ((i : Int) = j) = False := eq_false (by omega)
   simp [xf_tally_box_ballot_put_b2, xf_tally_box_ballot_put_k2, S_p2_ballot, hi, hi', hw, hL, e3, hij', hij2]
 ·simp [xf_tally_box_ballot_put_b2, S_p2_ballot]
theorem e_put_ballot (l : List Ballot) (v : Ballot) (hl : l.length ≤ 1048576) (hg : ∀ x ∈ l, x.log.length ≤ 1048577) (hgv : v.log.length ≤ 1048577) (hs : l.Pairwise (fun a b => a.node < b.node)) (hn : 1048577 < n) :
  runFn T n (d + 3) 170 [.dat (.agg [encBals l]), .dat (encBal v)] [] = some (.dat (encBals (putL (·.node) (upv_ballot v) v l)), []) := by
 rw [runFn_succ]
 rcases p0_ballot (n := n) (d := d) l v (by omega) hn with ⟨j, hj, he, e0⟩ | ⟨hne, e0⟩
 ·have e2 := p2s_ballot (n := n) (d := d) l v (by omega) hg hgv j hj hn
  have hput := putL_same (fun x : Ballot => x.node) (upv_ballot v) v l j hj hs he
  have hset : l.set j (if upv_ballot v l[j] then v else l[j]) = l.take j ++ (if upv_ballot v l[j] then v else l[j]) :: l.drop (j + 1) := by rw [List.set_eq_take_append_cons_drop, if_pos hj]
  rw [← hset] at hput
  rw [hput]
  have hll : (l.set j (if upv_ballot v l[j] then v else l[j])).length = l.length := by simp
  generalize l.set j (if upv_ballot v l[j] then v else l[j]) = out at *
  have hjl : ¬ (j : Int) = l.length := by omega
  have htk : List.take l.length (List.map encBal out) = List.map encBal out := List.take_of_length_le (by simp [hll])
  simp [S_p2_ballot, xf_tally_box_ballot_put_k2] at e2
  simp [xf_tally_box_ballot_put_k0] at e0
  simp [T, xf_tally_box_ballot_put, xf_tally_box_ballot_put_k0, xf_tally_box_ballot_put_k1, xf_tally_box_ballot_put_k2, e0, e2, hjl, htk, hll]
 ·obtain ⟨j, H, hj, h1, h2, e1, hH⟩ := p1_ballot (n := n) (d := d) l v (by omega) hn
  have e2 := p2n_ballot (n := n) (d := d) l v (by omega) hg hgv j hj hn
  have hput := putL_at (fun x : Ballot => x.node) (upv_ballot v) v l j hj (fun q hq hqj => by
   have a := h1 q hq hqj
   have b := hne l[q] (List.getElem_mem hq)
   omega) h2
  have e4 := e_ballot_fresh (n := n) (d := d + 1) v hgv
  rw [hput]
  simp [S_p2_ballot, xf_tally_box_ballot_put_k2] at e2
  simp [xf_tally_box_ballot_put_k0] at e0
  simp [xf_tally_box_ballot_put_k1] at e1
  by_cases hjl : j = l.length
  ·have ho : outN_ballot l v j l.length = l := by simp [outN_ballot, hjl]
   rw [ho] at e2
   have ho2 : l.take j ++ v :: l.drop j = l ++ [v] := by simp [hjl]
   rw [ho2]
   subst hjl
   have hL : l.length + 1 ≤ LIM := by simp only [LIM]; omega
   rcases hH with rfl | ⟨x, rfl⟩ <;> simp [T, xf_tally_box_ballot_put, xf_tally_box_ballot_put_k0, xf_tally_box_ballot_put_k1, xf_tally_box_ballot_put_k2, e0, e1, e2, e4, hL] <;> exact take_snoc _ _ _
  ·have ho : outN_ballot l v j l.length = l.take j ++ v :: l.drop j := by simp [outN_ballot, show ¬ l.length ≤ j by omega]
   rw [ho] at e2
   have hjl' : ¬ (j : Int) = l.length := by omega
   generalize l.take j ++ v :: l.drop j = out at *
   rcases hH with rfl | ⟨x, rfl⟩ <;> simp [T, xf_tally_box_ballot_put, xf_tally_box_ballot_put_k0, xf_tally_box_ballot_put_k1, xf_tally_box_ballot_put_k2, e0, e1, e2, hjl']
theorem e_Put_ballot (l : List Ballot) (v : Ballot) (hl : l.length ≤ 1048576) (hg : ∀ x ∈ l, x.log.length ≤ 1048577) (hgv : v.log.length ≤ 1048577) (hs : l.Pairwise (fun a b => a.node < b.node)) (hn : 1048577 < n) :
  runFn T n (d + 4) 154 [.dat (encBals l), .dat (encBal v)] [] = some (.dat (encBals (putL (·.node) (upv_ballot v) v l)), []) := by
 have h1 := e_turned_Ballot_ballot (n := n) (d := d + 1) l (by omega) hn
 have h2 := e_put_ballot (n := n) (d := d) l v hl hg hgv hs hn
 have hlen := putL_length (fun x : Ballot => x.node) (upv_ballot v) v l
 have h3 := e_turned_ballot_Ballot (n := n) (d := d + 1) (putL (fun x : Ballot => x.node) (upv_ballot v) v l) (by omega) hn
 rw [runFn_succ]
 simp [T, xf_tally_PutBallot, h1, h2, h3]
end Go.Ax
namespace Go.Ax
set_option linter.all false
variable {n d : Nat}
set_option maxRecDepth 10000
set_option linter.unusedSimpArgs false
set_option maxHeartbeats 16000000
theorem adm_err7 {c : Cfg} {s : State} {m : Msg} (h : stateErr c s = 0) : admErr c s m = msgErr c m := by unfold admErr; rw [if_neg (by simp [h])]
theorem best_log' {u : State} (hs : Small2 u) (own : Ballot) (ho : own.log = u.log) : (bestP own u.ballots).log.length ≤ 1048576 := by
 rcases bestP_mem u.ballots own with h | h
 ·rw [h, ho]; exact hs.log2
 ·exact hs.blogs2 _ h
theorem e_handle7 (c : Cfg) (s : State) (m : Msg) (hs : Small2 s) (hm : SmallM m) (hN : ∀ x ∈ s.vector, Nn x) (hn : 2097157 < n) :
  runFn T n (d + 11) 24 [.dat (encCfg c), .dat (encS s), .dat (encM m), .dat (di 7)] [] = some (.tup [.dat (encS (callS 7 c s m)), .dat (encSds (callL 7 c s m)), .dat (di (kErr c s m 7))], []) := by
 have k1 := e_core_Check (n := n) (d := d + 5) c s hs.toSmall (by omega)
 have mc := e_message_Check (n := n) (d := d + 7) c m (by have := hm.log; omega) (by omega)
 have ad := e_core_Admit (n := n) (d := d + 4) c s m hs.toSmall (by have := hm.log; omega) hN (by omega)
 have U56 := fun k a H => runFn_succ (n := n) T k 56 a H
 have U101 := fun k a H => runFn_succ (n := n) T k 101 a H
 have U152 := fun k a H => runFn_succ (n := n) T k 152 a H
 have U47 := fun k a H => runFn_succ (n := n) T k 47 a H
 have U79 := fun k a H => runFn_succ (n := n) T k 79 a H
 have U49 := fun k a H => runFn_succ (n := n) T k 49 a H
 have U82 := fun k a H => runFn_succ (n := n) T k 82 a H
 have U156 := fun k a H => runFn_succ (n := n) T k 156 a H
 have hw0 : IntKind.wrap .i64 1 = 1 := by decide
 rw [runFn_succ]
 unfold callS callL
 by_cases he : stateErr c s = 0
 ·rw [he] at k1
  by_cases hk : m.kind = 7
  ·have hk' := eq_true hk
   have hKE : kErr c s m 7 = msgErr c m := by unfold kErr; rw [if_neg (show ¬ stateErr c s ≠ 0 by simp [he]), if_neg (show ¬ m.kind ≠ 7 by simp [hk])]
   rw [hKE]
   by_cases hme : msgErr c m = 0
   ·rw [hme] at mc
    rw [adm_err7 he, hme] at ad
    rw [if_neg (show ¬ msgErr c m ≠ 0 by simp [hme]), if_neg (show ¬ msgErr c m ≠ 0 by simp [hme]), hme]
    have hok := admS_ok he hme
    have hsm := hs.adm he hme
    have hnod := nodes_ok hok
    obtain ⟨gc, gn1, gn2, gv1, gv2, gcm, gl, gt⟩ := msg_nums hme
    have hsf := admS_self he hme
    have hBn : admB c s m = true → m.node ≠ (admS c s m).self := fun h => by rw [hsf]; exact admB_node h (between_kind hk (by omega))
    generalize admS c s m = t at *
    generalize admB c s m = B at *
    obtain ⟨_, g1, g2, g3, _⟩ := hnod
    simp only [NN] at g1 g3 gn2
    cases B
    ·simp [T, xf_change_handle, k1, mc, ad, hk']
    ·have hne := hBn rfl
     rw [if_neg (by simp), if_neg (by simp)]
     unfold stepS stepL
     by_cases h3 : t.status = 3
     ·have h3' := eq_true h3
      rw [if_pos (.inl h3), if_pos (.inl h3)]
      simp [T, xf_change_handle, k1, mc, ad, hw0, hk', h3']
     ·have h3' := eq_false h3
      by_cases hst : stale t m
      ·rw [if_pos (.inr hst), if_pos (.inr hst)]
       by_cases v1 : m.view < t.view
       ·simp [T, xf_change_handle, xf_change_handlers, xf_change_vote, xf_change_step_later, U56, U101, U152, k1, mc, ad, hw0, hk', h3', v1]
       ·have v2 : m.view = t.view ∧ t.status = 1 := by unfold stale at hst; rcases hst with h | h; exact absurd h v1; exact h
        have v2' := eq_true v2.1
        have v3' := eq_true v2.2
        simp [T, xf_change_handle, xf_change_handlers, xf_change_vote, xf_change_step_later, U56, U101, U152, k1, mc, ad, hw0, hk', h3', v1, v2', v3']
      ·have hns : ¬ (t.status = 3 ∨ stale t m) := fun h => h.elim h3 hst
       rw [if_neg hns, if_neg hns, if_neg (show ¬ (7 : Int) = 6 by decide), if_neg (show ¬ (7 : Int) = 6 by decide), if_pos rfl, if_pos rfl]
       have v1 : ¬ m.view < t.view := fun h => hst (.inl h)
       have hvn : m.node.toNat < t.vector.length := by omega
       have hvn' : m.node < t.vector.length := by omega
       have hsn : t.self.toNat < t.vector.length := by omega
       have hsn' : t.self < t.vector.length := by omega
       have hd : drawAt t m.node = t.vector[m.node.toNat] := by simp [drawAt, List.getD, hvn]
       have hds : drawAt t t.self = t.vector[t.self.toNat] := by simp [drawAt, List.getD, hsn]
       have hob0 : ownBal t = ⟨t.self, t.vector[t.self.toNat], t.last, t.commit, t.log⟩ := by unfold ownBal; rw [hds]
       have hbv : balOf t m = ⟨m.node, t.vector[m.node.toNat], m.last, m.commit, m.log⟩ := by unfold balOf; rw [hd]
       have vo := vote_ok (c := c) hsm hm hok hne
       have hshort : t.marks.length ≤ 7 ∧ t.ballots.length ≤ 7 := ⟨(nodes_short hok).1, (nodes_short hok).2.1⟩
       have hml : (balOf t m).log.length ≤ 1048577 := by have := hm.log; exact Nat.le_succ_of_le this
       have hup : ∀ v, upv_ballot v = upBal v := fun v => rfl
       have hz : (⟨#[]⟩ : ByteArray) = ByteArray.empty := rfl
       by_cases v2 : m.view = t.view
       ·have v3 : ¬ t.status = 1 := fun h => hst (.inr ⟨v2, h⟩)
        have v2' := eq_true v2
        have v3' := eq_false v3
        have v4 : ¬ t.view < m.view := by omega
        have hf : firstS2 c t m = t := by unfold firstS2; rw [if_neg v4]
        have hfl : firstL c t m = [] := by unfold firstL; rw [if_neg v4]
        unfold votedS votedL
        rw [hf, hfl, List.nil_append]
        have hvs : voteS c t m = { t with ballots := putBal t.ballots (balOf t m) } := by unfold voteS; rw [hf]
        have hput := e_Put_ballot (n := n) (d := d + 5) t.ballots (balOf t m) (by have := hshort.2; omega) (fun x hx => by have := hsm.blogs2 x hx; omega) hml (sorted_of hok).2.1 (by omega)
        have hpe : putL (fun x : Ballot => x.node) (upv_ballot (balOf t m)) (balOf t m) t.ballots = putBal t.ballots (balOf t m) := by rw [hup]; rfl
        rw [hpe] at hput
        have pr := e_core_Primary (n := n) (d := d + 5) c t.view
        by_cases hp : primaryOf c t.view = t.self
        ·have hp' := eq_true hp
         rw [if_neg (not_not_intro hp), if_neg (not_not_intro hp)]
         rw [hp] at pr
         rw [hvs] at vo ⊢
         rw [hbv] at hput vo ⊢
         generalize putBal t.ballots ⟨m.node, t.vector[m.node.toNat], m.last, m.commit, m.log⟩ = P at *
         have ch := e_tally_Choose (n := n) (d := d + 7) c.f (ownBal { t with ballots := P }) P (by have := vo.short; simp only at this; omega) (fun x hx => by have := vo.small.blogs2 x hx; omega) (by have := hsm.log2; exact Nat.le_succ_of_le this) (by omega)
         have hob : ownBal { t with ballots := P } = ⟨t.self, t.vector[t.self.toNat], t.last, t.commit, t.log⟩ := hob0
         by_cases q : c.f ≤ P.length
         ·rw [if_pos q, if_pos q]
          have q' : ¬ (P.length : Int) < c.f := by omega
          rw [if_neg q', if_neg q'] at ch
          have hlg := best_log' vo.small (ownBal { t with ballots := P }) rfl
          have hch : (bestP (ownBal { t with ballots := P }) P).node = (bestP (ownBal { t with ballots := P }) P).node := rfl
          unfold leadS leadL
          rw [show ({ t with ballots := P } : State).ballots = P from rfl]
          rw [hob] at ch hlg ⊢
          generalize hC : chosen ⟨t.self, t.vector[t.self.toNat], t.last, t.commit, t.log⟩ P = C at *
          generalize bestP ⟨t.self, t.vector[t.self.toNat], t.last, t.commit, t.log⟩ P = B at *
          have hls := ledS0_small (u := { t with ballots := P }) vo.small hlg
          have al := e_core_All (n := n) (d := d + 1) c (ledS0 { t with ballots := P } B.log) (svM { t with ballots := P } B.log C) hls (sv_small hlg) (by omega)
          have cy := e_core_Carry (n := n) (d := d + 2) c (ledS0 { t with ballots := P } B.log) C hls.toSmall (by omega)
          rw [show (if stateErr c (ledS0 { t with ballots := P } B.log) = 0 then allS c (ledS0 { t with ballots := P } B.log) (svM { t with ballots := P } B.log C) else []) = allR c (ledS0 { t with ballots := P } B.log) (svM { t with ballots := P } B.log C) from rfl] at al
          have hr1 : (allR c (ledS0 { t with ballots := P } B.log) (svM { t with ballots := P } B.log C)).length ≤ 100 := by
           unfold allR
           split
           ·exact allS_len'
           ·simp
          have hr2 := (carryL_small c (ledS0 { t with ballots := P } B.log) C).1
          generalize allR c (ledS0 { t with ballots := P } B.log) (svM { t with ballots := P } B.log C) = L1 at *
          generalize carryL c (ledS0 { t with ballots := P } B.log) C = L2 at *
          generalize carryS c (ledS0 { t with ballots := P } B.log) C = X at *
          generalize carryErr c (ledS0 { t with ballots := P } B.log) C = CE at *
          generalize stateErr c (ledS0 { t with ballots := P } B.log) = SF at *
          have hm1 : L1.length ≤ LIM := by simp only [LIM]; omega
          have hm2 : L1.length + L2.length ≤ LIM := by simp only [LIM]; omega
          have hmin : min t.commit (B.log.length : Int) = if (B.log.length : Int) < t.commit then (B.log.length : Int) else t.commit := by split <;> omega
          simp [goS, ledS0, svM, zeroM, encM, cellsM, encLog, encV, encS, cellsS, encAcks, encMarks, encBals, encAnss] at al cy
          simp [encBals] at hput ch
          rw [hmin] at al cy
          simp (maxSteps := 1000000) [T, xf_change_handle, xf_change_handlers, xf_change_vote, xf_change_step_later, U56, U101, U152, v3', xf_change_frame_primary, U82, k1, mc, ad, hw0, hk', h3', v1, v2', v4, pr, xf_change_step_lead, xf_change_frame_clear, xf_change_frame_all, U156, U79, U49, hvn, hvn', gn1, g2, hsn, hsn', hput, ch, al, cy, hp', hm1, hm2, hz]
          exact List.take_of_length_le (by simp)
         ·rw [if_neg q, if_neg q]
          have q' : (P.length : Int) < c.f := by omega
          rw [if_pos q', if_pos q', hob] at ch
          simp [encBals] at hput ch
          simp (maxSteps := 1000000) [T, xf_change_handle, xf_change_handlers, xf_change_vote, xf_change_step_later, U56, U101, U152, v3', xf_change_frame_primary, U82, k1, mc, ad, hw0, hk', h3', v1, v2', v4, pr, hvn, hvn', gn1, g2, hsn, hsn', hput, ch, hp', hz]
        ·have hp' := eq_false hp
         rw [if_pos hp, if_pos hp]
         simp (maxSteps := 1000000) [T, xf_change_handle, xf_change_handlers, xf_change_vote, xf_change_step_later, U56, U101, U152, v3', xf_change_frame_primary, U82, k1, mc, ad, hw0, hk', h3', v1, v2', v4, pr, hp', hz]
       ·have v4 : t.view < m.view := by omega
        have v2' := eq_false v2
        have hf : firstS2 c t m = goS t m.view := by unfold firstS2; rw [if_pos v4]
        have hfl : firstL c t m = goL c t m.view := by unfold firstL; rw [if_pos v4]
        have hgs := go_small2 hsm m.view
        have a1 := e_core_All (n := n) (d := d) c (goS t m.view) (svcM m.view) hgs ⟨by simp [svcM, zeroM], by simp [svcM, zeroM]⟩ (by omega)
        have haL : (if stateErr c (goS t m.view) = 0 then allS c (goS t m.view) (svcM m.view) else []) = goL c t m.view := rfl
        rw [haL] at a1
        have hgl : (goL c t m.view).length ≤ 100 := by
         unfold goL allR
         split
         ·exact allS_len'
         ·simp
        unfold votedS votedL
        rw [hf, hfl, show (goS t m.view).view = m.view from rfl]
        have hvs : voteS c t m = { goS t m.view with ballots := putBal [] (balOf t m) } := by unfold voteS; rw [hf]; rfl
        generalize goL c t m.view = G at *
        generalize stateErr c (goS t m.view) = SE at *
        have hL0 : G.length ≤ LIM := by simp only [LIM]; omega
        simp [goS, svcM, zeroM, encM, cellsM, encLog, encV, encS, cellsS, encAcks, encMarks, encBals, encAnss] at a1
        have hput := e_Put_ballot (n := n) (d := d + 5) [] (balOf t m) (by simp) (by simp) hml (by simp) (by omega)
        have hpe : putL (fun x : Ballot => x.node) (upv_ballot (balOf t m)) (balOf t m) [] = putBal [] (balOf t m) := by rw [hup]; rfl
        rw [hpe] at hput
        have pr := e_core_Primary (n := n) (d := d + 5) c m.view
        by_cases hp : primaryOf c m.view = t.self
        ·have hp' := eq_true hp
         rw [if_neg (not_not_intro hp), if_neg (not_not_intro hp)]
         rw [hp] at pr
         rw [hvs] at vo ⊢
         rw [hbv] at hput vo ⊢
         generalize putBal [] ⟨m.node, t.vector[m.node.toNat], m.last, m.commit, m.log⟩ = P at *
         have ch := e_tally_Choose (n := n) (d := d + 7) c.f (ownBal { goS t m.view with ballots := P }) P (by have := vo.short; simp only at this; omega) (fun x hx => by have := vo.small.blogs2 x hx; omega) (by have := hsm.log2; exact Nat.le_succ_of_le this) (by omega)
         have hob : ownBal { goS t m.view with ballots := P } = ⟨t.self, t.vector[t.self.toNat], t.last, t.commit, t.log⟩ := hob0
         by_cases q : c.f ≤ P.length
         ·rw [if_pos q, if_pos q]
          have q' : ¬ (P.length : Int) < c.f := by omega
          rw [if_neg q', if_neg q'] at ch
          have hlg := best_log' vo.small (ownBal { goS t m.view with ballots := P }) rfl
          have hch : (bestP (ownBal { goS t m.view with ballots := P }) P).node = (bestP (ownBal { goS t m.view with ballots := P }) P).node := rfl
          unfold leadS leadL
          rw [show ({ goS t m.view with ballots := P } : State).ballots = P from rfl]
          rw [hob] at ch hlg ⊢
          generalize hC : chosen ⟨t.self, t.vector[t.self.toNat], t.last, t.commit, t.log⟩ P = C at *
          generalize bestP ⟨t.self, t.vector[t.self.toNat], t.last, t.commit, t.log⟩ P = B at *
          have hls := ledS0_small (u := { goS t m.view with ballots := P }) vo.small hlg
          have al := e_core_All (n := n) (d := d + 1) c (ledS0 { goS t m.view with ballots := P } B.log) (svM { goS t m.view with ballots := P } B.log C) hls (sv_small hlg) (by omega)
          have cy := e_core_Carry (n := n) (d := d + 2) c (ledS0 { goS t m.view with ballots := P } B.log) C hls.toSmall (by omega)
          rw [show (if stateErr c (ledS0 { goS t m.view with ballots := P } B.log) = 0 then allS c (ledS0 { goS t m.view with ballots := P } B.log) (svM { goS t m.view with ballots := P } B.log C) else []) = allR c (ledS0 { goS t m.view with ballots := P } B.log) (svM { goS t m.view with ballots := P } B.log C) from rfl] at al
          have hr1 : (allR c (ledS0 { goS t m.view with ballots := P } B.log) (svM { goS t m.view with ballots := P } B.log C)).length ≤ 100 := by
           unfold allR
           split
           ·exact allS_len'
           ·simp
          have hr2 := (carryL_small c (ledS0 { goS t m.view with ballots := P } B.log) C).1
          generalize allR c (ledS0 { goS t m.view with ballots := P } B.log) (svM { goS t m.view with ballots := P } B.log C) = L1 at *
          generalize carryL c (ledS0 { goS t m.view with ballots := P } B.log) C = L2 at *
          generalize carryS c (ledS0 { goS t m.view with ballots := P } B.log) C = X at *
          generalize carryErr c (ledS0 { goS t m.view with ballots := P } B.log) C = CE at *
          generalize stateErr c (ledS0 { goS t m.view with ballots := P } B.log) = SF at *
          have hm1 : G.length + L1.length ≤ LIM := by simp only [LIM]; omega
          have hm2 : G.length + (L1.length + L2.length) ≤ LIM := by simp only [LIM]; omega
          have hA : G.length + L1.length + L2.length = G.length + (L1.length + L2.length) := Nat.add_assoc _ _ _
          have hmin : min t.commit (B.log.length : Int) = if (B.log.length : Int) < t.commit then (B.log.length : Int) else t.commit := by split <;> omega
          simp [goS, ledS0, svM, zeroM, encM, cellsM, encLog, encV, encS, cellsS, encAcks, encMarks, encBals, encAnss] at al cy
          simp [encBals] at hput ch
          rw [hmin] at al cy
          simp (maxSteps := 1000000) [T, xf_change_handle, xf_change_handlers, xf_change_vote, xf_change_step_later, U56, U101, U152, xf_change_frame_goes, xf_change_frame_clear, xf_change_frame_all, U47, U49, U79, a1, hL0, hz, xf_change_frame_primary, U82, k1, mc, ad, hw0, hk', h3', v1, v2', v4, pr, xf_change_step_lead, xf_change_frame_clear, xf_change_frame_all, U156, U79, U49, hvn, hvn', gn1, g2, hsn, hsn', hput, ch, al, cy, hp', hm1, hm2, hz, hA, goS]
          exact List.take_of_length_le (by simp)
         ·rw [if_neg q, if_neg q]
          have q' : (P.length : Int) < c.f := by omega
          rw [if_pos q', if_pos q', hob] at ch
          simp [encBals] at hput ch
          simp (maxSteps := 1000000) [T, xf_change_handle, xf_change_handlers, xf_change_vote, xf_change_step_later, U56, U101, U152, xf_change_frame_goes, xf_change_frame_clear, xf_change_frame_all, U47, U49, U79, a1, hL0, hz, xf_change_frame_primary, U82, k1, mc, ad, hw0, hk', h3', v1, v2', v4, pr, hvn, hvn', gn1, g2, hsn, hsn', hput, ch, hp', hz, goS]
        ·have hp' := eq_false hp
         rw [if_pos hp, if_pos hp]
         simp (maxSteps := 1000000) [T, xf_change_handle, xf_change_handlers, xf_change_vote, xf_change_step_later, U56, U101, U152, xf_change_frame_goes, xf_change_frame_clear, xf_change_frame_all, U47, U49, U79, a1, hL0, hz, xf_change_frame_primary, U82, k1, mc, ad, hw0, hk', h3', v1, v2', v4, pr, hp', hz, goS]
   ·rw [if_pos hme, if_pos hme]
    generalize msgErr c m = ME at *
    simp [T, xf_change_handle, k1, mc, hk', hme, zeroS]
  ·have hk' := eq_false hk
   have hKE : kErr c s m 7 = 70 := by unfold kErr; rw [if_neg (show ¬ stateErr c s ≠ 0 by simp [he]), if_pos hk]
   rw [hKE, if_pos (by simp), if_pos (by simp)]
   simp [T, xf_change_handle, k1, hk', zeroS]
 ·have hKE : kErr c s m 7 = stateErr c s := by unfold kErr; rw [if_pos he]
  rw [hKE, if_pos he, if_pos he]
  generalize stateErr c s = SE at *
  simp [T, xf_change_handle, k1, he, zeroS]
end Go.Ax
namespace Go.Ax
set_option linter.all false
variable {n d : Nat}
set_option maxRecDepth 10000
set_option linter.unusedSimpArgs false
set_option maxHeartbeats 8000000
theorem carry_small2 {s : State} (hs : Small2 s) (c : Cfg) (to : Int) : Small2 (carryS c s to) := by
 unfold carryS
 split
 ·exact zeroS_small2
 ·split
  ·exact hs
  ·exact ⟨⟨hs.log, hs.vector, hs.acks, hs.marks, hs.ballots, hs.answers, hs.blogs, hs.alogs⟩, hs.log2, hs.vector2, hs.blogs2, hs.alogs2⟩
theorem carryL_len (c : Cfg) (s : State) (to : Int) : (carryL c s to).length ≤ 256 := by
 unfold carryL
 split
 ·simp
 ·rename_i he
  split
  ·simp
  ·split
   ·split
    ·have hz : carryErr c s to = 0 := by omega
     unfold carryErr at hz
     have h0 : stateErr c s = 0 := by
      by_cases h0 : stateErr c s = 0
      ·exact h0
      ·rw [if_pos h0] at hz; exact absurd hz h0
     rw [if_neg (by simp [h0])] at hz
     obtain ⟨f1, f2, f3, f4⟩ := log_facts h0
     have hto : 0 ≤ to ∧ to ≤ s.log.length := by
      by_cases hq : to < 0 ∨ (s.log.length : Int) < to
      ·rw [if_pos hq] at hz; cases hz
      ·omega
     have hR := carry_rows (s := s) f1 f2 hto
     rw [List.length_map]; omega
    ·simp
   ·simp
theorem SmallL.app {a b : List Send} (ha : SmallL a) (hb : SmallL b) (h : a.length + b.length ≤ 1000) : SmallL (a ++ b) := by
 refine ⟨by rw [List.length_append]; omega, fun x hx => ?_⟩
 rcases List.mem_append.1 hx with hx | hx
 ·exact ha.2 x hx
 ·exact hb.2 x hx
theorem carryL_smallL (c : Cfg) (s : State) (to : Int) : SmallL (carryL c s to) := ⟨by have := carryL_len c s to; omega, (carryL_small c s to).2⟩
theorem lead_small {c : Cfg} {u : State} (hs : Small2 u) : Small2 (leadS c u) ∧ SmallL (leadL c u) ∧ (leadL c u).length ≤ 356 := by
 have hl := best_log hs (ownBal u) rfl
 have h1 := ledS0_small (u := u) hs hl
 obtain ⟨a1, a2⟩ := SmallL.all (c := c) (m := svM u (bestP (ownBal u) u.ballots).log (chosen (ownBal u) u.ballots)) h1 (sv_small hl)
 have b1 := carryL_smallL c (ledS0 u (bestP (ownBal u) u.ballots).log) (chosen (ownBal u) u.ballots)
 have b2 := carryL_len c (ledS0 u (bestP (ownBal u) u.ballots).log) (chosen (ownBal u) u.ballots)
 refine ⟨carry_small2 h1 c _, a1.app b1 (by omega), ?_⟩
 unfold leadL
 rw [List.length_append]
 omega
theorem call7_small {c : Cfg} {s : State} {m : Msg} (hs : Small2 s) (hm : SmallM m) : Small2 (callS 7 c s m) ∧ SmallL (callL 7 c s m) := by
 unfold callS callL
 by_cases hk : kErr c s m 7 = 0
 ·obtain ⟨he, hkd, hme⟩ := kErr_zero hk
  simp only [hk, ne_eq, not_true_eq_false, if_false]
  have hok := admS_ok he hme
  have hsm := hs.adm he hme
  have hsf := admS_self he hme
  by_cases hB : admB c s m = false
  ·rw [if_pos hB, if_pos hB]; exact ⟨hsm, SmallL.nil⟩
  ·rw [if_neg hB, if_neg hB]
   have hne : m.node ≠ (admS c s m).self := by rw [hsf]; exact admB_node (by simpa using hB) (between_kind hkd (by omega))
   generalize admS c s m = t at *
   unfold stepS stepL
   by_cases h : t.status = 3 ∨ stale t m
   ·rw [if_pos h, if_pos h]; exact ⟨hsm, SmallL.nil⟩
   ·rw [if_neg h, if_neg h, if_neg (show ¬ (7 : Int) = 6 by decide), if_neg (show ¬ (7 : Int) = 6 by decide), if_pos rfl, if_pos rfl]
    have vo := vote_ok (c := c) hsm hm hok hne
    obtain ⟨l1, l2, l3⟩ := lead_small (c := c) vo.small
    obtain ⟨f1, f2⟩ := firstL_small (c := c) (m := m) hsm
    unfold votedS votedL
    by_cases hp : primaryOf c (firstS2 c t m).view ≠ t.self
    ·rw [if_pos hp, if_pos hp, List.append_nil]; exact ⟨first_small hsm, f1⟩
    ·rw [if_neg hp, if_neg hp]
     by_cases hf : c.f ≤ (voteS c t m).ballots.length
     ·rw [if_pos hf, if_pos hf]; exact ⟨l1, f1.app l2 (by omega)⟩
     ·rw [if_neg hf, if_neg hf, List.append_nil]; exact ⟨vo.small, f1⟩
 ·rw [if_pos hk, if_pos hk]
  exact ⟨zeroS_small2, SmallL.nil⟩
theorem e_change_Vote (c : Cfg) (s : State) (m : Msg) (hs : Small2 s) (hm : SmallM m) (hN : ∀ x ∈ s.vector, Nn x) (hn : 2097157 < n) :
  runFn T n (d + 12) 14 [.dat (encCfg c), .dat (encS s), .dat (encM m)] [] = some (.tup [.dat (encS (callS 7 c s m)), .dat (encSds (callL 7 c s m)), .dat (di (kErr c s m 7))], []) := by
 have h := e_handle7 (n := n) (d := d) c s m hs hm hN hn
 rw [runFn_succ]
 simp [T, xf_change_Vote, h]
theorem law_ChangeVotes (c : Cfg) (s : State) (m : Msg) (hs : Small2 s) (hm : SmallM m) (hN : ∀ x ∈ s.vector, Nn x) (hn : 2097157 < n) (hal : ∃ H, runFn T n (d + 14) 13 [] [] = some (.dat (.bool true), H)) :
  ∃ H, runFn T n (d + 15) 4 [.dat (encCfg c), .dat (encS s), .dat (encM m)] [] = some (.dat (.bool true), H) := by
 have g := e_Given_State (n := n) (d := d + 11) s hs (by omega)
 have hgl : (gsE1 s s.answers).length ≤ 6000000 ∧ 0 < (gsE1 s s.answers).length := by
  have hb := hs.ballots
  have ha := hs.answers
  constructor
  ·simp [gsE1]; omega
  ·simp [gsE1]
 have g2 := e_Given_Msg (n := n) (d := d + 11) m hm [rD s.vector] (gsE1 s s.answers) [encS s] (by simp) (by simp) hgl.1 hgl.2 (by simp)
 have o1 := e_change_Vote (n := n) (d := d + 2) c s m hs hm hN hn
 have o2 := e_ref11_Vote (n := n) (d := d + 4) c s m hs hm hn
 obtain ⟨sm1, sm2⟩ := call7_small (c := c) (m := m) hs hm
 have s1 := e_same11 (n := n) (d := d + 10) (callS 7 c s m) (callL 7 c s m) (kErr c s m 7) sm1.toSmall sm2 (by omega)
 have hin := e_Intact2 (n := n) (d := d + 10) s m hs hm hn
 unfold givAV givH at g
 simp only [List.length_cons, List.length_nil, Nat.zero_add] at g2
 generalize callS 7 c s m = X at o1 o2 s1
 generalize callL 7 c s m = L at o1 o2 s1
 generalize kErr c s m 7 = K at o1 o2 s1
 obtain ⟨AH, hal⟩ := hal
 rw [runFn_succ]
 simp [T, xf_law11_ChangeVotes, g, g2, o1, o2, s1, hin, hal]
end Go.Ax
