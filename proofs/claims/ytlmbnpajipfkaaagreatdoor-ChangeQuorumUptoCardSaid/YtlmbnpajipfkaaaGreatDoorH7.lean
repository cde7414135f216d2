/-
  A vote among others (ballot), evaluated.
-/
import Derived.Test.YtlmbnpajipfkaaaGreatDoorPA
import Derived.Test.YtlmbnpajipfkaaaGreatDoorME
import Derived.Test.YtlmbnpajipfkaaaGreatDoorVL
import Derived.Test.YtlmbnpajipfkaaaGreatDoorMF
import Derived.Test.YtlmbnpajipfkaaaGreatDoorED
import Derived.Test.YtlmbnpajipfkaaaGreatDoorEH
namespace Go.Ax
set_option linter.all false
variable {n d : Nat}
set_option maxRecDepth 10000
set_option linter.unusedSimpArgs false
set_option maxHeartbeats 8000000
abbrev abBallot (v x : Ballot) : Bool := aboveBal v x
theorem e_tally_longer (l : List Ent) (a : Int) (k : List Ent) (b : Int) : runFn T n (d + 1) 150 [.dat (encLog l), .dat (di a), .dat (encLog k), .dat (di b)] [] = some (.dat (.bool (longerB l a k b)), []) := by
 rw [runFn_succ]
 unfold longerB
 have h : decide ((l.length : Int) = k.length) = decide (l.length = k.length) := by
  by_cases h : l.length = k.length
  ·rw [decide_eq_true h, decide_eq_true (by omega)]
  ·rw [decide_eq_false h, decide_eq_false (by omega)]
 simp [T, xf_tally_longer, h]
theorem e_ballot_above (v x : Ballot) : runFn T n (d + 2) 147 [.dat (encBal v), .dat (encBal x)] [] = some (.dat (.bool (abBallot v x)), []) := by
 have h := e_tally_longer (n := n) (d := d) v.log v.commit x.log x.commit
 rw [runFn_succ]
 unfold abBallot aboveBal
 by_cases h1 : v.last = x.last
 ·have h1' := eq_true h1
  have h2 : ¬ v.last ≠ x.last := by simp [h1]
  rw [if_neg h2]
  simp [T, xf_tally_ballot_above, h, h1']
 ·have h1' := eq_false h1
  rw [if_pos h1]
  simp [T, xf_tally_ballot_above, h1']
abbrev bxv_ballot (x : Ballot) : Blk := .box [.dat (di x.node), .dat (du x.draw.hi), .dat (du x.draw.lo), .dat (di x.last), .dat (di x.commit), .dat (encLog x.log)]
def upv_ballot (v x : Ballot) : Bool := decide (0 < cmp v.draw x.draw) || decide (cmp v.draw x.draw = 0) && abBallot v x
theorem p0_ballot (l : List Ballot) (v : Ballot) (hl : l.length ≤ 1048577) (hn : 1048577 < n) :
  (∃ j, ∃ hj : j < l.length, l[j].node = v.node ∧ loopAt (XCode.run (runFn T n (d + 2)) n 0 xf_tally_box_ballot_put_b0) (headOf 0 xf_tally_box_ballot_put_k0) n ⟨[(2, .ptr 0 0), (3, .ptr 1 0), (5, .dat (di l.length)), (6, .dat (.bool false)), (19, .dat (encBals l)), (20, .dat (di l.length)), (21, .dat (di 0))], [.box [.dat (encBals l)], bxv_ballot v]⟩ = some (.exit 0, ⟨[(2, .ptr 0 0), (3, .ptr 1 0), (5, .dat (di j)), (6, .dat (.bool true))], [.box [.dat (encBals l)], bxv_ballot v, bxv_ballot l[j]]⟩)) ∨
  ((∀ x ∈ l, x.node ≠ v.node) ∧ loopAt (XCode.run (runFn T n (d + 2)) n 0 xf_tally_box_ballot_put_b0) (headOf 0 xf_tally_box_ballot_put_k0) n ⟨[(2, .ptr 0 0), (3, .ptr 1 0), (5, .dat (di l.length)), (6, .dat (.bool false)), (19, .dat (encBals l)), (20, .dat (di l.length)), (21, .dat (di 0))], [.box [.dat (encBals l)], bxv_ballot v]⟩ = some (.exit 0, ⟨[(2, .ptr 0 0), (3, .ptr 1 0), (5, .dat (di l.length)), (6, .dat (.bool false))], [.box [.dat (encBals l)], bxv_ballot v]⟩)) := by
 have main := loop_until (body := XCode.run (runFn T n (d + 2)) n 0 xf_tally_box_ballot_put_b0) (head := headOf 0 xf_tally_box_ballot_put_k0) (fun i => ⟨[(2, .ptr 0 0), (3, .ptr 1 0), (5, .dat (di l.length)), (6, .dat (.bool false)), (19, .dat (encBals l)), (20, .dat (di l.length)), (21, .dat (di i))], [.box [.dat (encBals l)], bxv_ballot v]⟩) l.length (.exit 0, ⟨[(2, .ptr 0 0), (3, .ptr 1 0), (5, .dat (di l.length)), (6, .dat (.bool false))], [.box [.dat (encBals l)], bxv_ballot v]⟩) (fun i => (l[i]?.map (·.node)) = some v.node)
  (fun i => (.exit 0, ⟨[(2, .ptr 0 0), (3, .ptr 1 0), (5, .dat (di i)), (6, .dat (.bool true))], [.box [.dat (encBals l)], bxv_ballot v, bxv_ballot (l.getD i default)]⟩)) (fun i hi hs => nextK_some ?_) (fun i hi hs => ⟨?_, fun s h => by cases h⟩) ?_ (fun s h => by cases h) l.length n 0 (by omega) (by omega)
 ·rcases main with ⟨j, _, hj, hs, _, e⟩ | ⟨hs, e⟩
  ·refine .inl ⟨j, hj, by simpa [hj] using hs, ?_⟩
   have hg : l.getD j default = l[j] := by simp [List.getD, hj]
   rw [hg] at e
   exact e
  ·refine .inr ⟨fun x hx h => ?_, e⟩
   obtain ⟨j, hj, rfl⟩ := List.mem_iff_getElem.1 hx
   exact hs j (Nat.zero_le _) hj (by simp [hj, h])
 ·have hi' : (i : Int) < l.length := by omega
  have hw := wrap_i i (by omega)
  have e1 := e_ballot_node (n := n) (d := d + 1) l[i]
  have e2 := e_ballot_node (n := n) (d := d + 1) v
  have hs' : ¬ l[i].node = v.node := by simpa [hi] using hs
  simp [xf_tally_box_ballot_put_b0, xf_tally_box_ballot_put_k0, hi, hi', hw, e1, e2, hs']
 ·have hi' : (i : Int) < l.length := by omega
  have e1 := e_ballot_node (n := n) (d := d + 1) l[i]
  have e2 := e_ballot_node (n := n) (d := d + 1) v
  have hs' : l[i].node = v.node := by simpa [hi] using hs
  have hs'' := eq_true hs'
  simp [xf_tally_box_ballot_put_b0, hi, hi', e1, e2, hs'']
 ·simp [xf_tally_box_ballot_put_b0]
theorem p1_ballot (l : List Ballot) (v : Ballot) (hl : l.length ≤ 1048577) (hn : 1048577 < n) : ∃ j H, j ≤ l.length ∧ (∀ q (hq : q < l.length), q < j → ¬ v.node < l[q].node) ∧ (∀ hq : j < l.length, v.node < l[j].node) ∧
  loopAt (XCode.run (runFn T n (d + 2)) n 0 xf_tally_box_ballot_put_b1) (headOf 0 xf_tally_box_ballot_put_k1) n ⟨[(2, .ptr 0 0), (3, .ptr 1 0), (5, .dat (di l.length)), (6, .dat (.bool false)), (38, .dat (encBals l)), (39, .dat (di l.length)), (40, .dat (di 0))], [.box [.dat (encBals l)], bxv_ballot v]⟩ = some (.exit 2, ⟨[(2, .ptr 0 0), (3, .ptr 1 0), (5, .dat (di j)), (6, .dat (.bool false))], H⟩) ∧ (H = [.box [.dat (encBals l)], bxv_ballot v] ∨ ∃ x, H = [.box [.dat (encBals l)], bxv_ballot v, bxv_ballot x]) := by
 have main := loop_until (body := XCode.run (runFn T n (d + 2)) n 0 xf_tally_box_ballot_put_b1) (head := headOf 0 xf_tally_box_ballot_put_k1) (fun i => ⟨[(2, .ptr 0 0), (3, .ptr 1 0), (5, .dat (di l.length)), (6, .dat (.bool false)), (38, .dat (encBals l)), (39, .dat (di l.length)), (40, .dat (di i))], [.box [.dat (encBals l)], bxv_ballot v]⟩) l.length (.exit 2, ⟨[(2, .ptr 0 0), (3, .ptr 1 0), (5, .dat (di l.length)), (6, .dat (.bool false))], [.box [.dat (encBals l)], bxv_ballot v]⟩) (fun i => ∃ h : i < l.length, v.node < l[i].node)
  (fun i => (.exit 2, ⟨[(2, .ptr 0 0), (3, .ptr 1 0), (5, .dat (di i)), (6, .dat (.bool false))], [.box [.dat (encBals l)], bxv_ballot v, bxv_ballot (l.getD i default)]⟩)) (fun i hi hs => nextK_some ?_) (fun i hi hs => ⟨?_, fun s h => by cases h⟩) ?_ (fun s h => by cases h) l.length n 0 (by omega) (by omega)
 ·rcases main with ⟨j, _, hj, ⟨_, hs⟩, hq, e⟩ | ⟨hs, e⟩
  ·exact ⟨j, _, by omega, fun q h1 h2 h3 => hq q (Nat.zero_le _) h2 ⟨h1, h3⟩, fun _ => hs, e, .inr ⟨_, rfl⟩⟩
  ·exact ⟨l.length, _, Nat.le_refl _, fun q h1 h2 h3 => hs q (Nat.zero_le _) h1 ⟨h1, h3⟩, fun h => absurd h (by omega), e, .inl rfl⟩
 ·have hi' : (i : Int) < l.length := by omega
  have hw := wrap_i i (by omega)
  have e1 := e_ballot_node (n := n) (d := d + 1) l[i]
  have e2 := e_ballot_node (n := n) (d := d + 1) v
  have hs' : ¬ v.node < l[i].node := fun h => hs ⟨hi, h⟩
  simp [xf_tally_box_ballot_put_b1, xf_tally_box_ballot_put_k1, hi, hi', hw, e1, e2, hs']
 ·have hi' : (i : Int) < l.length := by omega
  have e1 := e_ballot_node (n := n) (d := d + 1) l[i]
  have e2 := e_ballot_node (n := n) (d := d + 1) v
  obtain ⟨_, hs'⟩ := hs
  simp [xf_tally_box_ballot_put_b1, hi, hi', e1, e2, hs']
 ·simp [xf_tally_box_ballot_put_b1]
def S_p2_ballot (l : List Ballot) (v : Ballot) (at_ : Int) (b : Bool) (out : List Ballot) (i : Nat) : St := ⟨[(2, .ptr 0 0), (3, .ptr 1 0), (5, .dat (di at_)), (6, .dat (.bool b)), (11, .own 2 0 out.length), (55, .dat (encBals l)), (56, .dat (di l.length)), (57, .dat (di i))], [.box [.dat (encBals l)], bxv_ballot v, .arr 175 6 false false (out.map encBal)]⟩
theorem p2s_ballot (l : List Ballot) (v : Ballot) (hl : l.length ≤ 1048577) (hg : ∀ x ∈ l, x.log.length ≤ 1048577) (hgv : v.log.length ≤ 1048577) (j : Nat) (hj : j < l.length) (hn : 1048577 < n) :
  loopAt (XCode.run (runFn T n (d + 2)) n 0 xf_tally_box_ballot_put_b2) (headOf 0 xf_tally_box_ballot_put_k2) n (S_p2_ballot l v j true [] 0) = some (.exit 4, ⟨[(2, .ptr 0 0), (3, .ptr 1 0), (5, .dat (di j)), (11, .own 2 0 l.length)], (S_p2_ballot l v j true (l.set j (if upv_ballot v l[j] then v else l[j])) 0).H⟩) := by
 have hlen : ∀ i, i ≤ l.length → ((l.set j (if upv_ballot v l[j] then v else l[j])).take i).length = i := fun i hi => by simp; omega
 have main := loop_for (body := XCode.run (runFn T n (d + 2)) n 0 xf_tally_box_ballot_put_b2) (head := headOf 0 xf_tally_box_ballot_put_k2) (fun i => S_p2_ballot l v j true ((l.set j (if upv_ballot v l[j] then v else l[j])).take i) i) l.length (.exit 4, ⟨[(2, .ptr 0 0), (3, .ptr 1 0), (5, .dat (di j)), (11, .own 2 0 l.length)], (S_p2_ballot l v j true (l.set j (if upv_ballot v l[j] then v else l[j])) 0).H⟩) (fun i hi => nextK_some ?_) ?_ (fun s h => by simp [S_p2_ballot] at h) n (by omega)
 ·rw [List.take_zero] at main; exact main
 ·have hi' : (i : Int) < l.length := by omega
  have hw := wrap_i i (by omega)
  have hL : i + 1 ≤ LIM := by simp only [LIM]; omega
  have hsn : (l.set j (if upv_ballot v l[j] then v else l[j])).take (i + 1) = (l.set j (if upv_ballot v l[j] then v else l[j])).take i ++ [(l.set j (if upv_ballot v l[j] then v else l[j]))[i]'(by simp; omega)] := List.take_succ_eq_append_getElem (by simp; omega)
  rw [hsn]
  have hl0 := hlen i (by omega)
  have e3 := e_ballot_fresh (n := n) (d := d + 1) l[i] (hg _ (List.getElem_mem hi))
  have e4 := e_ballot_fresh (n := n) (d := d + 1) v hgv
  by_cases hij : i = j
  ·subst hij
   have e5 := e_ballot_draw (n := n) (d := d + 1) l[i]
   have e6 := e_ballot_draw (n := n) (d := d + 1) v
   have e7 := p43 (n := n) (d := d + 1) v.draw l[i].draw
   have e8 := e_ballot_above (n := n) (d := d) v l[i]
   have hget : (l.set i (if upv_ballot v l[i] then v else l[i]))[i]'(by simp; omega) = (if upv_ballot v l[i] then v else l[i]) := by simp
   rw [hget]
   generalize (l.set i (if upv_ballot v l[i] then v else l[i])).take i = out at hl0 ⊢
   unfold upv_ballot
   by_cases c1 : 0 < cmp v.draw l[i].draw
   ·simp [xf_tally_box_ballot_put_b2, xf_tally_box_ballot_put_k2, S_p2_ballot, hi, hi', hw, hL, hl0, e3, e4, e5, e6, e7, c1]
   ·by_cases c2 : cmp v.draw l[i].draw = 0
    ·have c2' := eq_true c2
     cases c3 : abBallot v l[i]
     ·(try rw [c3] at e8)
      simp [xf_tally_box_ballot_put_b2, xf_tally_box_ballot_put_k2, S_p2_ballot, hi, hi', hw, hL, hl0, e3, e4, e5, e6, e7, e8, c1, c2', c3]
     ·(try rw [c3] at e8)
      (try cases c3)
      try simp [xf_tally_box_ballot_put_b2, xf_tally_box_ballot_put_k2, S_p2_ballot, hi, hi', hw, hL, hl0, e3, e4, e5, e6, e7, e8, c1, c2', c3]
    ·have c2' := eq_false c2
     simp [xf_tally_box_ballot_put_b2, xf_tally_box_ballot_put_k2, S_p2_ballot, hi, hi', hw, hL, hl0, e3, e4, e5, e6, e7, c1, c2']
  ·have hget : (l.set j (if upv_ballot v l[j] then v else l[j]))[i]'(by simp; omega) = l[i] := by rw [List.getElem_set_ne (by omega)]
   rw [hget]
   generalize (l.set j (if upv_ballot v l[j] then v else l[j])).take i = out at hl0 ⊢
   have hij' := eq_false hij
   have hij2 : ((i : Int) = j) = False := eq_false (by omega)
   simp [xf_tally_box_ballot_put_b2, xf_tally_box_ballot_put_k2, S_p2_ballot, hi, hi', hw, hL, hl0, e3, hij', hij2]
 ·have := hlen l.length (Nat.le_refl _)
  rw [List.take_of_length_le (by simp)]
  simp [xf_tally_box_ballot_put_b2, S_p2_ballot]
def outN_ballot (l : List Ballot) (v : Ballot) (j i : Nat) : List Ballot := if i ≤ j then l.take i else l.take j ++ v :: (l.take i).drop j
theorem p2n_ballot (l : List Ballot) (v : Ballot) (hl : l.length ≤ 1048577) (hg : ∀ x ∈ l, x.log.length ≤ 1048577) (hgv : v.log.length ≤ 1048577) (j : Nat) (hj : j ≤ l.length) (hn : 1048577 < n) :
  loopAt (XCode.run (runFn T n (d + 2)) n 0 xf_tally_box_ballot_put_b2) (headOf 0 xf_tally_box_ballot_put_k2) n (S_p2_ballot l v j false [] 0) = some (.exit 4, ⟨[(2, .ptr 0 0), (3, .ptr 1 0), (5, .dat (di j)), (11, .own 2 0 (outN_ballot l v j l.length).length)], (S_p2_ballot l v j false (outN_ballot l v j l.length) 0).H⟩) := by
 have main := loop_for (body := XCode.run (runFn T n (d + 2)) n 0 xf_tally_box_ballot_put_b2) (head := headOf 0 xf_tally_box_ballot_put_k2) (fun i => S_p2_ballot l v j false (outN_ballot l v j i) i) l.length (.exit 4, ⟨[(2, .ptr 0 0), (3, .ptr 1 0), (5, .dat (di j)), (11, .own 2 0 (outN_ballot l v j l.length).length)], (S_p2_ballot l v j false (outN_ballot l v j l.length) 0).H⟩) (fun i hi => nextK_some ?_) ?_ (fun s h => by simp [S_p2_ballot] at h) n (by omega)
 ·have : outN_ballot l v j 0 = [] := by simp [outN_ballot]
  rw [this] at main; exact main
 ·have hi' : (i : Int) < l.length := by omega
  have hw := wrap_i i (by omega)
  have hle : (outN_ballot l v j i).length ≤ i + 1 := by unfold outN_ballot; split <;> simp <;> omega
  have e3 := e_ballot_fresh (n := n) (d := d + 1) l[i] (hg _ (List.getElem_mem hi))
  have e4 := e_ballot_fresh (n := n) (d := d + 1) v hgv
  have hL : (outN_ballot l v j i).length + 1 ≤ LIM := by simp only [LIM]; omega
  have hL2 : (outN_ballot l v j i).length + 1 + 1 ≤ LIM := by simp only [LIM]; omega
  by_cases hij : i = j
  ·have hsn : outN_ballot l v j (i + 1) = outN_ballot l v j i ++ [v] ++ [l[i]] := by
    subst hij
    unfold outN_ballot
    rw [if_neg (by omega), if_pos (Nat.le_refl _), List.take_succ_eq_append_getElem hi, List.drop_append_of_le_length (by simp; omega), List.drop_eq_nil_of_le (by simp; omega)]
    simp only [List.nil_append, List.append_assoc, List.singleton_append]
   rw [hsn]
   generalize outN_ballot l v j i = out at *
   have hij' := eq_true hij
   subst hij
   simp [xf_tally_box_ballot_put_b2, xf_tally_box_ballot_put_k2, S_p2_ballot, hi, hi', hw, hL, hL2, e3, e4]
  ·have hsn : outN_ballot l v j (i + 1) = outN_ballot l v j i ++ [l[i]] := by
    by_cases h1 : i < j
    ·unfold outN_ballot
     rw [if_pos (by omega), if_pos (by omega), List.take_succ_eq_append_getElem hi]
    ·unfold outN_ballot
     rw [if_neg (by omega), if_neg (by omega), List.take_succ_eq_append_getElem hi, List.drop_append_of_le_length (by simp; omega)]
     simp only [List.append_assoc, List.cons_append]
   rw [hsn]
   generalize outN_ballot l v j i = out at *
   have hij' := eq_false hij
   have hij2 : ((i : Int) = j) = False := eq_false (by omega)
   simp [xf_tally_box_ballot_put_b2, xf_tally_box_ballot_put_k2, S_p2_ballot, hi, hi', hw, hL, e3, hij', hij2]
 ·simp [xf_tally_box_ballot_put_b2, S_p2_ballot]
theorem e_put_ballot (l : List Ballot) (v : Ballot) (hl : l.length ≤ 1048576) (hg : ∀ x ∈ l, x.log.length ≤ 1048577) (hgv : v.log.length ≤ 1048577) (hs : l.Pairwise (fun a b => a.node < b.node)) (hn : 1048577 < n) :
  runFn T n (d + 3) 119 [.dat (.agg [encBals l]), .dat (encBal v)] [] = some (.dat (encBals (putL (·.node) (upv_ballot v) v l)), []) := by
 rw [runFn_succ]
 rcases p0_ballot (n := n) (d := d) l v (by omega) hn with ⟨j, hj, he, e0⟩ | ⟨hne, e0⟩
 ·have e2 := p2s_ballot (n := n) (d := d) l v (by omega) hg hgv j hj hn
  have hput := putL_same (fun x : Ballot => x.node) (upv_ballot v) v l j hj hs he
  have hset : l.set j (if upv_ballot v l[j] then v else l[j]) = l.take j ++ (if upv_ballot v l[j] then v else l[j]) :: l.drop (j + 1) := by rw [List.set_eq_take_append_cons_drop, if_pos hj]
  rw [← hset] at hput
  rw [hput]
  have hll : (l.set j (if upv_ballot v l[j] then v else l[j])).length = l.length := by simp
  generalize l.set j (if upv_ballot v l[j] then v else l[j]) = out at *
  have hjl : ¬ (j : Int) = l.length := by omega
  have htk : List.take l.length (List.map encBal out) = List.map encBal out := List.take_of_length_le (by simp [hll])
  simp [S_p2_ballot, xf_tally_box_ballot_put_k2] at e2
  simp [xf_tally_box_ballot_put_k0] at e0
  simp [T, xf_tally_box_ballot_put, xf_tally_box_ballot_put_k0, xf_tally_box_ballot_put_k1, xf_tally_box_ballot_put_k2, e0, e2, hjl, htk, hll]
 ·obtain ⟨j, H, hj, h1, h2, e1, hH⟩ := p1_ballot (n := n) (d := d) l v (by omega) hn
  have e2 := p2n_ballot (n := n) (d := d) l v (by omega) hg hgv j hj hn
  have hput := putL_at (fun x : Ballot => x.node) (upv_ballot v) v l j hj (fun q hq hqj => by
   have a := h1 q hq hqj
   have b := hne l[q] (List.getElem_mem hq)
   omega) h2
  have e4 := e_ballot_fresh (n := n) (d := d + 1) v hgv
  rw [hput]
  simp [S_p2_ballot, xf_tally_box_ballot_put_k2] at e2
  simp [xf_tally_box_ballot_put_k0] at e0
  simp [xf_tally_box_ballot_put_k1] at e1
  by_cases hjl : j = l.length
  ·have ho : outN_ballot l v j l.length = l := by simp [outN_ballot, hjl]
   rw [ho] at e2
   have ho2 : l.take j ++ v :: l.drop j = l ++ [v] := by simp [hjl]
   rw [ho2]
   subst hjl
   have hL : l.length + 1 ≤ LIM := by simp only [LIM]; omega
   rcases hH with rfl | ⟨x, rfl⟩ <;> simp [T, xf_tally_box_ballot_put, xf_tally_box_ballot_put_k0, xf_tally_box_ballot_put_k1, xf_tally_box_ballot_put_k2, e0, e1, e2, e4, hL] <;> exact take_snoc _ _ _
  ·have ho : outN_ballot l v j l.length = l.take j ++ v :: l.drop j := by simp [outN_ballot, show ¬ l.length ≤ j by omega]
   rw [ho] at e2
   have hjl' : ¬ (j : Int) = l.length := by omega
   generalize l.take j ++ v :: l.drop j = out at *
   rcases hH with rfl | ⟨x, rfl⟩ <;> simp [T, xf_tally_box_ballot_put, xf_tally_box_ballot_put_k0, xf_tally_box_ballot_put_k1, xf_tally_box_ballot_put_k2, e0, e1, e2, hjl']
theorem e_Put_ballot (l : List Ballot) (v : Ballot) (hl : l.length ≤ 1048576) (hg : ∀ x ∈ l, x.log.length ≤ 1048577) (hgv : v.log.length ≤ 1048577) (hs : l.Pairwise (fun a b => a.node < b.node)) (hn : 1048577 < n) :
  runFn T n (d + 4) 109 [.dat (encBals l), .dat (encBal v)] [] = some (.dat (encBals (putL (·.node) (upv_ballot v) v l)), []) := by
 have h1 := e_turned_Ballot_ballot (n := n) (d := d + 1) l (by omega) hn
 have h2 := e_put_ballot (n := n) (d := d) l v hl hg hgv hs hn
 have hlen := putL_length (fun x : Ballot => x.node) (upv_ballot v) v l
 have h3 := e_turned_ballot_Ballot (n := n) (d := d + 1) (putL (fun x : Ballot => x.node) (upv_ballot v) v l) (by omega) hn
 rw [runFn_succ]
 simp [T, xf_tally_PutBallot, h1, h2, h3]
end Go.Ax
namespace Go.Ax
set_option linter.all false
variable {n d : Nat}
set_option maxRecDepth 10000
set_option linter.unusedSimpArgs false
set_option maxHeartbeats 16000000
theorem adm_err7 {c : Cfg} {s : State} {m : Msg} (h : stateErr c s = 0) : admErr c s m = msgErr c m := by unfold admErr; rw [if_neg (by simp [h])]
theorem best_log' {u : State} (hs : Small2 u) (own : Ballot) (ho : own.log = u.log) : (bestP own u.ballots).log.length ≤ 1048576 := by
 rcases bestP_mem u.ballots own with h | h
 ·rw [h, ho]; exact hs.log2
 ·exact hs.blogs2 _ h
theorem e_handle7 (c : Cfg) (s : State) (m : Msg) (hs : Small2 s) (hm : SmallM m) (hN : ∀ x ∈ s.vector, Nn x) (hn : 2097157 < n) :
  runFn T n (d + 11) 21 [.dat (encCfg c), .dat (encS s), .dat (encM m), .dat (di 7)] [] = some (.tup [.dat (encS (callS 7 c s m)), .dat (encSds (callL 7 c s m)), .dat (di (kErr c s m 7))], []) := by
 have k1 := e_core_Check (n := n) (d := d + 5) c s hs.toSmall (by omega)
 have mc := e_message_Check (n := n) (d := d + 7) c m (by have := hm.log; omega) (by omega)
 have ad := e_core_Admit (n := n) (d := d + 4) c s m hs.toSmall (by have := hm.log; omega) hN (by omega)
 have U56 := fun k a H => runFn_succ (n := n) T k 35 a H
 have U101 := fun k a H => runFn_succ (n := n) T k 67 a H
 have U152 := fun k a H => runFn_succ (n := n) T k 107 a H
 have U47 := fun k a H => runFn_succ (n := n) T k 27 a H
 have U79 := fun k a H => runFn_succ (n := n) T k 47 a H
 have U49 := fun k a H => runFn_succ (n := n) T k 23 a H
 have U82 := fun k a H => runFn_succ (n := n) T k 42 a H
 have U156 := fun k a H => runFn_succ (n := n) T k 111 a H
 have hw0 : IntKind.wrap .i64 1 = 1 := by decide
 rw [runFn_succ]
 unfold callS callL
 by_cases he : stateErr c s = 0
 ·rw [he] at k1
  by_cases hk : m.kind = 7
  ·have hk' := eq_true hk
   have hKE : kErr c s m 7 = msgErr c m := by unfold kErr; rw [if_neg (show ¬ stateErr c s ≠ 0 by simp [he]), if_neg (show ¬ m.kind ≠ 7 by simp [hk])]
   rw [hKE]
   by_cases hme : msgErr c m = 0
   ·rw [hme] at mc
    rw [adm_err7 he, hme] at ad
    rw [if_neg (show ¬ msgErr c m ≠ 0 by simp [hme]), if_neg (show ¬ msgErr c m ≠ 0 by simp [hme]), hme]
    have hok := admS_ok he hme
    have hsm := hs.adm he hme
    have hnod := nodes_ok hok
    obtain ⟨gc, gn1, gn2, gv1, gv2, gcm, gl, gt⟩ := msg_nums hme
    have hsf := admS_self he hme
    have hBn : admB c s m = true → m.node ≠ (admS c s m).self := fun h => by rw [hsf]; exact admB_node h (between_kind hk (by omega))
    generalize admS c s m = t at *
    generalize admB c s m = B at *
    obtain ⟨_, g1, g2, g3, _⟩ := hnod
    simp only [NN] at g1 g3 gn2
    cases B
    ·simp [T, xf_change_handle, k1, mc, ad, hk']
    ·have hne := hBn rfl
     rw [if_neg (by simp), if_neg (by simp)]
     unfold stepS stepL
     by_cases h3 : t.status = 3
     ·have h3' := eq_true h3
      rw [if_pos (.inl h3), if_pos (.inl h3)]
      simp [T, xf_change_handle, k1, mc, ad, hw0, hk', h3']
     ·have h3' := eq_false h3
      by_cases hst : stale t m
      ·rw [if_pos (.inr hst), if_pos (.inr hst)]
       by_cases v1 : m.view < t.view
       ·simp [T, xf_change_handle, xf_change_handlers, xf_change_vote, xf_change_step_later, U56, U101, U152, k1, mc, ad, hw0, hk', h3', v1]
       ·have v2 : m.view = t.view ∧ t.status = 1 := by unfold stale at hst; rcases hst with h | h; exact absurd h v1; exact h
        have v2' := eq_true v2.1
        have v3' := eq_true v2.2
        simp [T, xf_change_handle, xf_change_handlers, xf_change_vote, xf_change_step_later, U56, U101, U152, k1, mc, ad, hw0, hk', h3', v1, v2', v3']
      ·have hns : ¬ (t.status = 3 ∨ stale t m) := fun h => h.elim h3 hst
       rw [if_neg hns, if_neg hns, if_neg (show ¬ (7 : Int) = 6 by decide), if_neg (show ¬ (7 : Int) = 6 by decide), if_pos rfl, if_pos rfl]
       have v1 : ¬ m.view < t.view := fun h => hst (.inl h)
       have hvn : m.node.toNat < t.vector.length := by omega
       have hvn' : m.node < t.vector.length := by omega
       have hsn : t.self.toNat < t.vector.length := by omega
       have hsn' : t.self < t.vector.length := by omega
       have hd : drawAt t m.node = t.vector[m.node.toNat] := by simp [drawAt, List.getD, hvn]
       have hds : drawAt t t.self = t.vector[t.self.toNat] := by simp [drawAt, List.getD, hsn]
       have hob0 : ownBal t = ⟨t.self, t.vector[t.self.toNat], t.last, t.commit, t.log⟩ := by unfold ownBal; rw [hds]
       have hbv : balOf t m = ⟨m.node, t.vector[m.node.toNat], m.last, m.commit, m.log⟩ := by unfold balOf; rw [hd]
       have vo := vote_ok (c := c) hsm hm hok hne
       have hshort : t.marks.length ≤ 7 ∧ t.ballots.length ≤ 7 := ⟨(nodes_short hok).1, (nodes_short hok).2.1⟩
       have hml : (balOf t m).log.length ≤ 1048577 := by have := hm.log; exact Nat.le_succ_of_le this
       have hup : ∀ v, upv_ballot v = upBal v := fun v => rfl
       have hz : (⟨#[]⟩ : ByteArray) = ByteArray.empty := rfl
       by_cases v2 : m.view = t.view
       ·have v3 : ¬ t.status = 1 := fun h => hst (.inr ⟨v2, h⟩)
        have v2' := eq_true v2
        have v3' := eq_false v3
        have v4 : ¬ t.view < m.view := by omega
        have hf : firstS2 c t m = t := by unfold firstS2; rw [if_neg v4]
        have hfl : firstL c t m = [] := by unfold firstL; rw [if_neg v4]
        unfold votedS votedL
        rw [hf, hfl, List.nil_append]
        have hvs : voteS c t m = { t with ballots := putBal t.ballots (balOf t m) } := by unfold voteS; rw [hf]
        have hput := e_Put_ballot (n := n) (d := d + 5) t.ballots (balOf t m) (by have := hshort.2; omega) (fun x hx => by have := hsm.blogs2 x hx; omega) hml (sorted_of hok).2.1 (by omega)
        have hpe : putL (fun x : Ballot => x.node) (upv_ballot (balOf t m)) (balOf t m) t.ballots = putBal t.ballots (balOf t m) := by rw [hup]; rfl
        rw [hpe] at hput
        have pr := e_core_Primary (n := n) (d := d + 5) c t.view
        by_cases hp : primaryOf c t.view = t.self
        ·have hp' := eq_true hp
         rw [if_neg (not_not_intro hp), if_neg (not_not_intro hp)]
         rw [hp] at pr
         rw [hvs] at vo ⊢
         rw [hbv] at hput vo ⊢
         generalize putBal t.ballots ⟨m.node, t.vector[m.node.toNat], m.last, m.commit, m.log⟩ = P at *
         have ch := e_tally_Choose (n := n) (d := d + 7) c.f (ownBal { t with ballots := P }) P (by have := vo.short; simp only at this; omega) (fun x hx => by have := vo.small.blogs2 x hx; omega) (by have := hsm.log2; exact Nat.le_succ_of_le this) (by omega)
         have hob : ownBal { t with ballots := P } = ⟨t.self, t.vector[t.self.toNat], t.last, t.commit, t.log⟩ := hob0
         by_cases q : c.f ≤ P.length
         ·rw [if_pos q, if_pos q]
          have q' : ¬ (P.length : Int) < c.f := by omega
          rw [if_neg q', if_neg q'] at ch
          have hlg := best_log' vo.small (ownBal { t with ballots := P }) rfl
          have hch : (bestP (ownBal { t with ballots := P }) P).node = (bestP (ownBal { t with ballots := P }) P).node := rfl
          unfold leadS leadL
          rw [show ({ t with ballots := P } : State).ballots = P from rfl]
          rw [hob] at ch hlg ⊢
          generalize hC : chosen ⟨t.self, t.vector[t.self.toNat], t.last, t.commit, t.log⟩ P = C at *
          generalize bestP ⟨t.self, t.vector[t.self.toNat], t.last, t.commit, t.log⟩ P = B at *
          have hls := ledS0_small (u := { t with ballots := P }) vo.small hlg
          have al := e_core_All (n := n) (d := d + 1) c (ledS0 { t with ballots := P } B.log) (svM { t with ballots := P } B.log C) hls (sv_small hlg) (by omega)
          have cy := e_core_Carry (n := n) (d := d + 2) c (ledS0 { t with ballots := P } B.log) C hls.toSmall (by omega)
          rw [show (if stateErr c (ledS0 { t with ballots := P } B.log) = 0 then allS c (ledS0 { t with ballots := P } B.log) (svM { t with ballots := P } B.log C) else []) = allR c (ledS0 { t with ballots := P } B.log) (svM { t with ballots := P } B.log C) from rfl] at al
          have hr1 : (allR c (ledS0 { t with ballots := P } B.log) (svM { t with ballots := P } B.log C)).length ≤ 100 := by
           unfold allR
           split
           ·exact allS_len'
           ·simp
          have hr2 := (carryL_small c (ledS0 { t with ballots := P } B.log) C).1
          generalize allR c (ledS0 { t with ballots := P } B.log) (svM { t with ballots := P } B.log C) = L1 at *
          generalize carryL c (ledS0 { t with ballots := P } B.log) C = L2 at *
          generalize carryS c (ledS0 { t with ballots := P } B.log) C = X at *
          generalize carryErr c (ledS0 { t with ballots := P } B.log) C = CE at *
          generalize stateErr c (ledS0 { t with ballots := P } B.log) = SF at *
          have hm1 : L1.length ≤ LIM := by simp only [LIM]; omega
          have hm2 : L1.length + L2.length ≤ LIM := by simp only [LIM]; omega
          have hmin : min t.commit (B.log.length : Int) = if (B.log.length : Int) < t.commit then (B.log.length : Int) else t.commit := by split <;> omega
          simp [goS, ledS0, svM, zeroM, encM, cellsM, encLog, encV, encS, cellsS, encAcks, encMarks, encBals, encAnss] at al cy
          simp [encBals] at hput ch
          rw [hmin] at al cy
          simp (maxSteps := 1000000) [T, xf_change_handle, xf_change_handlers, xf_change_vote, xf_change_step_later, U56, U101, U152, v3', xf_change_frame_primary, U82, k1, mc, ad, hw0, hk', h3', v1, v2', v4, pr, xf_change_step_lead, xf_change_frame_clear, xf_change_frame_all, U156, U79, U49, hvn, hvn', gn1, g2, hsn, hsn', hput, ch, al, cy, hp', hm1, hm2, hz]
          exact List.take_of_length_le (by simp)
         ·rw [if_neg q, if_neg q]
          have q' : (P.length : Int) < c.f := by omega
          rw [if_pos q', if_pos q', hob] at ch
          simp [encBals] at hput ch
          simp (maxSteps := 1000000) [T, xf_change_handle, xf_change_handlers, xf_change_vote, xf_change_step_later, U56, U101, U152, v3', xf_change_frame_primary, U82, k1, mc, ad, hw0, hk', h3', v1, v2', v4, pr, hvn, hvn', gn1, g2, hsn, hsn', hput, ch, hp', hz]
        ·have hp' := eq_false hp
         rw [if_pos hp, if_pos hp]
         simp (maxSteps := 1000000) [T, xf_change_handle, xf_change_handlers, xf_change_vote, xf_change_step_later, U56, U101, U152, v3', xf_change_frame_primary, U82, k1, mc, ad, hw0, hk', h3', v1, v2', v4, pr, hp', hz]
       ·have v4 : t.view < m.view := by omega
        have v2' := eq_false v2
        have hf : firstS2 c t m = goS t m.view := by unfold firstS2; rw [if_pos v4]
        have hfl : firstL c t m = goL c t m.view := by unfold firstL; rw [if_pos v4]
        have hgs := go_small2 hsm m.view
        have a1 := e_core_All (n := n) (d := d) c (goS t m.view) (svcM m.view) hgs ⟨by simp [svcM, zeroM], by simp [svcM, zeroM]⟩ (by omega)
        have haL : (if stateErr c (goS t m.view) = 0 then allS c (goS t m.view) (svcM m.view) else []) = goL c t m.view := rfl
        rw [haL] at a1
        have hgl : (goL c t m.view).length ≤ 100 := by
         unfold goL allR
         split
         ·exact allS_len'
         ·simp
        unfold votedS votedL
        rw [hf, hfl, show (goS t m.view).view = m.view from rfl]
        have hvs : voteS c t m = { goS t m.view with ballots := putBal [] (balOf t m) } := by unfold voteS; rw [hf]; rfl
        generalize goL c t m.view = G at *
        generalize stateErr c (goS t m.view) = SE at *
        have hL0 : G.length ≤ LIM := by simp only [LIM]; omega
        simp [goS, svcM, zeroM, encM, cellsM, encLog, encV, encS, cellsS, encAcks, encMarks, encBals, encAnss] at a1
        have hput := e_Put_ballot (n := n) (d := d + 5) [] (balOf t m) (by simp) (by simp) hml (by simp) (by omega)
        have hpe : putL (fun x : Ballot => x.node) (upv_ballot (balOf t m)) (balOf t m) [] = putBal [] (balOf t m) := by rw [hup]; rfl
        rw [hpe] at hput
        have pr := e_core_Primary (n := n) (d := d + 5) c m.view
        by_cases hp : primaryOf c m.view = t.self
        ·have hp' := eq_true hp
         rw [if_neg (not_not_intro hp), if_neg (not_not_intro hp)]
         rw [hp] at pr
         rw [hvs] at vo ⊢
         rw [hbv] at hput vo ⊢
         generalize putBal [] ⟨m.node, t.vector[m.node.toNat], m.last, m.commit, m.log⟩ = P at *
         have ch := e_tally_Choose (n := n) (d := d + 7) c.f (ownBal { goS t m.view with ballots := P }) P (by have := vo.short; simp only at this; omega) (fun x hx => by have := vo.small.blogs2 x hx; omega) (by have := hsm.log2; exact Nat.le_succ_of_le this) (by omega)
         have hob : ownBal { goS t m.view with ballots := P } = ⟨t.self, t.vector[t.self.toNat], t.last, t.commit, t.log⟩ := hob0
         by_cases q : c.f ≤ P.length
         ·rw [if_pos q, if_pos q]
          have q' : ¬ (P.length : Int) < c.f := by omega
          rw [if_neg q', if_neg q'] at ch
          have hlg := best_log' vo.small (ownBal { goS t m.view with ballots := P }) rfl
          have hch : (bestP (ownBal { goS t m.view with ballots := P }) P).node = (bestP (ownBal { goS t m.view with ballots := P }) P).node := rfl
          unfold leadS leadL
          rw [show ({ goS t m.view with ballots := P } : State).ballots = P from rfl]
          rw [hob] at ch hlg ⊢
          generalize hC : chosen ⟨t.self, t.vector[t.self.toNat], t.last, t.commit, t.log⟩ P = C at *
          generalize bestP ⟨t.self, t.vector[t.self.toNat], t.last, t.commit, t.log⟩ P = B at *
          have hls := ledS0_small (u := { goS t m.view with ballots := P }) vo.small hlg
          have al := e_core_All (n := n) (d := d + 1) c (ledS0 { goS t m.view with ballots := P } B.log) (svM { goS t m.view with ballots := P } B.log C) hls (sv_small hlg) (by omega)
          have cy := e_core_Carry (n := n) (d := d + 2) c (ledS0 { goS t m.view with ballots := P } B.log) C hls.toSmall (by omega)
          rw [show (if stateErr c (ledS0 { goS t m.view with ballots := P } B.log) = 0 then allS c (ledS0 { goS t m.view with ballots := P } B.log) (svM { goS t m.view with ballots := P } B.log C) else []) = allR c (ledS0 { goS t m.view with ballots := P } B.log) (svM { goS t m.view with ballots := P } B.log C) from rfl] at al
          have hr1 : (allR c (ledS0 { goS t m.view with ballots := P } B.log) (svM { goS t m.view with ballots := P } B.log C)).length ≤ 100 := by
           unfold allR
           split
           ·exact allS_len'
           ·simp
          have hr2 := (carryL_small c (ledS0 { goS t m.view with ballots := P } B.log) C).1
          generalize allR c (ledS0 { goS t m.view with ballots := P } B.log) (svM { goS t m.view with ballots := P } B.log C) = L1 at *
          generalize carryL c (ledS0 { goS t m.view with ballots := P } B.log) C = L2 at *
          generalize carryS c (ledS0 { goS t m.view with ballots := P } B.log) C = X at *
          generalize carryErr c (ledS0 { goS t m.view with ballots := P } B.log) C = CE at *
          generalize stateErr c (ledS0 { goS t m.view with ballots := P } B.log) = SF at *
          have hm1 : G.length + L1.length ≤ LIM := by simp only [LIM]; omega
          have hm2 : G.length + (L1.length + L2.length) ≤ LIM := by simp only [LIM]; omega
          have hA : G.length + L1.length + L2.length = G.length + (L1.length + L2.length) := Nat.add_assoc _ _ _
          have hmin : min t.commit (B.log.length : Int) = if (B.log.length : Int) < t.commit then (B.log.length : Int) else t.commit := by split <;> omega
          simp [goS, ledS0, svM, zeroM, encM, cellsM, encLog, encV, encS, cellsS, encAcks, encMarks, encBals, encAnss] at al cy
          simp [encBals] at hput ch
          rw [hmin] at al cy
          simp (maxSteps := 1000000) [T, xf_change_handle, xf_change_handlers, xf_change_vote, xf_change_step_later, U56, U101, U152, xf_change_frame_goes, xf_change_frame_clear, xf_change_frame_all, U47, U49, U79, a1, hL0, hz, xf_change_frame_primary, U82, k1, mc, ad, hw0, hk', h3', v1, v2', v4, pr, xf_change_step_lead, xf_change_frame_clear, xf_change_frame_all, U156, U79, U49, hvn, hvn', gn1, g2, hsn, hsn', hput, ch, al, cy, hp', hm1, hm2, hz, hA, goS]
          exact List.take_of_length_le (by simp)
         ·rw [if_neg q, if_neg q]
          have q' : (P.length : Int) < c.f := by omega
          rw [if_pos q', if_pos q', hob] at ch
          simp [encBals] at hput ch
          simp (maxSteps := 1000000) [T, xf_change_handle, xf_change_handlers, xf_change_vote, xf_change_step_later, U56, U101, U152, xf_change_frame_goes, xf_change_frame_clear, xf_change_frame_all, U47, U49, U79, a1, hL0, hz, xf_change_frame_primary, U82, k1, mc, ad, hw0, hk', h3', v1, v2', v4, pr, hvn, hvn', gn1, g2, hsn, hsn', hput, ch, hp', hz, goS]
        ·have hp' := eq_false hp
         rw [if_pos hp, if_pos hp]
         simp (maxSteps := 1000000) [T, xf_change_handle, xf_change_handlers, xf_change_vote, xf_change_step_later, U56, U101, U152, xf_change_frame_goes, xf_change_frame_clear, xf_change_frame_all, U47, U49, U79, a1, hL0, hz, xf_change_frame_primary, U82, k1, mc, ad, hw0, hk', h3', v1, v2', v4, pr, hp', hz, goS]
   ·rw [if_pos hme, if_pos hme]
    generalize msgErr c m = ME at *
    simp [T, xf_change_handle, k1, mc, hk', hme, zeroS]
  ·have hk' := eq_false hk
   have hKE : kErr c s m 7 = 70 := by unfold kErr; rw [if_neg (show ¬ stateErr c s ≠ 0 by simp [he]), if_pos hk]
   rw [hKE, if_pos (by simp), if_pos (by simp)]
   simp [T, xf_change_handle, k1, hk', zeroS]
 ·have hKE : kErr c s m 7 = stateErr c s := by unfold kErr; rw [if_pos he]
  rw [hKE, if_pos he, if_pos he]
  generalize stateErr c s = SE at *
  simp [T, xf_change_handle, k1, he, zeroS]
end Go.Ax
namespace Go.Ax
set_option linter.all false
variable {n d : Nat}
set_option maxRecDepth 10000
set_option linter.unusedSimpArgs false
set_option maxHeartbeats 16000000
theorem adm_err8 {c : Cfg} {s : State} {m : Msg} (h : stateErr c s = 0) : admErr c s m = msgErr c m := by unfold admErr; rw [if_neg (by simp [h])]
theorem inst_small {t : State} (h : Small2 t) {m : Msg} (hm : SmallM m) : Small2 (instS t m) :=
 ⟨⟨by have := hm.log; simp only [instS]; omega, h.vector, by simp [instS], by simp [instS], by simp [instS], by simp [instS], by simp [instS], by simp [instS]⟩, hm.log, h.vector2, by simp [instS], by simp [instS]⟩
theorem e_handle8 (c : Cfg) (s : State) (m : Msg) (hs : Small2 s) (hm : SmallM m) (hN : ∀ x ∈ s.vector, Nn x) (hn : 2097157 < n) :
  runFn T n (d + 11) 21 [.dat (encCfg c), .dat (encS s), .dat (encM m), .dat (di 8)] [] = some (.tup [.dat (encS (callS 8 c s m)), .dat (encSds (callL 8 c s m)), .dat (di (kErr c s m 8))], []) := by
 have k1 := e_core_Check (n := n) (d := d + 5) c s hs.toSmall (by omega)
 have mc := e_message_Check (n := n) (d := d + 7) c m (by have := hm.log; omega) (by omega)
 have ad := e_core_Admit (n := n) (d := d + 4) c s m hs.toSmall (by have := hm.log; omega) hN (by omega)
 have U56 := fun k a H => runFn_succ (n := n) T k 35 a H
 have U102 := fun k a H => runFn_succ (n := n) T k 68 a H
 have U79 := fun k a H => runFn_succ (n := n) T k 47 a H
 have U82 := fun k a H => runFn_succ (n := n) T k 42 a H
 have U83 := fun k a H => runFn_succ (n := n) T k 43 a H
 have hw0 : IntKind.wrap .i64 2 = 2 := by decide
 rw [runFn_succ]
 unfold callS callL
 by_cases he : stateErr c s = 0
 ·rw [he] at k1
  by_cases hk : m.kind = 8
  ·have hk' := eq_true hk
   have hKE : kErr c s m 8 = msgErr c m := by unfold kErr; rw [if_neg (show ¬ stateErr c s ≠ 0 by simp [he]), if_neg (show ¬ m.kind ≠ 8 by simp [hk])]
   rw [hKE]
   by_cases hme : msgErr c m = 0
   ·rw [hme] at mc
    rw [adm_err8 he, hme] at ad
    rw [if_neg (show ¬ msgErr c m ≠ 0 by simp [hme]), if_neg (show ¬ msgErr c m ≠ 0 by simp [hme]), hme]
    have hok := admS_ok he hme
    have hsm := hs.adm he hme
    have hnod := nodes_ok hok
    obtain ⟨gc, gn1, gn2, gv1, gv2, gcm, gl, gt⟩ := msg_nums hme
    have hsf := admS_self he hme
    have hBn : admB c s m = true → m.node ≠ (admS c s m).self := fun h => by rw [hsf]; exact admB_node h (between_kind hk (by omega))
    generalize admS c s m = t at *
    generalize admB c s m = B at *
    obtain ⟨_, g1, g2, g3, _⟩ := hnod
    simp only [NN] at g1 g3 gn2
    cases B
    ·simp [T, xf_change_handle, k1, mc, ad, hk']
    ·have hne := hBn rfl
     rw [if_neg (by simp), if_neg (by simp)]
     unfold stepS stepL
     by_cases h3 : t.status = 3
     ·have h3' := eq_true h3
      rw [if_pos (.inl h3), if_pos (.inl h3)]
      simp [T, xf_change_handle, k1, mc, ad, hw0, hk', h3']
     ·have h3' := eq_false h3
      by_cases hst : stale t m
      ·rw [if_pos (.inr hst), if_pos (.inr hst)]
       by_cases v1 : m.view < t.view
       ·simp [T, xf_change_handle, xf_change_handlers, xf_change_install, U56, U102, k1, mc, ad, hw0, hk', h3', v1]
       ·have v2 : m.view = t.view ∧ t.status = 1 := by unfold stale at hst; rcases hst with h | h; exact absurd h v1; exact h
        have v2' := eq_true v2.1
        have v3' := eq_true v2.2
        simp [T, xf_change_handle, xf_change_handlers, xf_change_install, U56, U102, k1, mc, ad, hw0, hk', h3', v1, v2', v3']
      ·have hns : ¬ (t.status = 3 ∨ stale t m) := fun h => h.elim h3 hst
       rw [if_neg hns, if_neg hns, if_neg (show ¬ (8 : Int) = 6 by decide), if_neg (show ¬ (8 : Int) = 6 by decide), if_neg (show ¬ (8 : Int) = 7 by decide), if_neg (show ¬ (8 : Int) = 7 by decide)]
       have v1 : ¬ m.view < t.view := fun h => hst (.inl h)
       have v2 : ¬ (m.view = t.view ∧ t.status = 1) := fun h => hst (.inr h)
       have hpn : primaryOf c m.view = m.node := by
        unfold primaryOf
        rw [if_pos ⟨gc, gv1, gv2⟩]
        unfold numsTail at gt
        rw [if_neg (by omega), if_neg (by omega), if_neg (by omega), if_pos hk] at gt
        simp only [Bool.and_eq_true, decide_eq_true_eq] at gt
        rw [gt.1]
       have hz : (⟨#[]⟩ : ByteArray) = ByteArray.empty := rfl
       have hi := inst_small hsm (m := m) hm
       have pr := e_core_Primary (n := n) (d := d + 5) c m.view
       rw [hpn] at pr
       have o1 := e_core_One (n := n) (d := d + 2) c (instS t m) m.node (pokM m.view m.log) hi ⟨by simp [pokM, zeroM], by simp [pokM, zeroM]⟩ (by omega)
       have hLl : m.log.length ≤ LIM := by have := hm.log; simp only [LIM]; omega
       unfold instL
       have hmx : (instS t m).commit = if (m.log.length : Int) < (if t.commit < m.commit then m.commit else t.commit) then (m.log.length : Int) else (if t.commit < m.commit then m.commit else t.commit) := by
        unfold instS
        simp only
        split <;> split at * <;> omega
       generalize oneS c (instS t m) m.node (pokM m.view m.log) = X at *
       generalize oneErr c (instS t m) m.node = OE at *
       by_cases v3 : m.view = t.view
       ·have v5 : ¬ t.status = 1 := fun h => v2 ⟨v3, h⟩
        have v2' := eq_true v3
        have v3' := eq_false v5
        by_cases h1 : t.commit < m.commit
        ·rw [if_pos h1] at hmx
         by_cases h2 : (m.log.length : Int) < m.commit
         ·rw [if_pos h2] at hmx
          have h4 : ¬ (instS t m).commit < m.log.length := by omega
          rw [if_neg h4]
          have hms : min (max t.commit m.commit) (m.log.length : Int) = m.log.length := by omega
          simp (maxSteps := 1000000) [T, xf_change_handle, xf_change_handlers, xf_change_install, xf_change_frame_clear, U56, U102, U79, k1, mc, ad, hw0, hk', h3', v1, v2', v3', h1, h2, hLl, hz, instS, hms]
         ·rw [if_neg h2] at hmx
          have hms : min (max t.commit m.commit) (m.log.length : Int) = m.commit := by omega
          simp [instS, pokM, zeroM, encM, cellsM, encLog, encV, encS, cellsS, encAcks, encMarks, encBals, encAnss, hms] at o1
          by_cases h5 : m.commit < m.log.length
          ·have h4 : (instS t m).commit < m.log.length := by omega
           rw [if_pos h4]
           simp (maxSteps := 1000000) [T, xf_change_handle, xf_change_handlers, xf_change_install, xf_change_frame_clear, xf_change_frame_primary, xf_change_frame_one, U56, U102, U79, U82, U83, k1, mc, ad, hw0, hk', h3', v1, v2', v3', h1, h2, h5, hLl, hz, instS, hms, pr, o1]
          ·have h4 : ¬ (instS t m).commit < m.log.length := by omega
           rw [if_neg h4]
           simp (maxSteps := 1000000) [T, xf_change_handle, xf_change_handlers, xf_change_install, xf_change_frame_clear, U56, U102, U79, k1, mc, ad, hw0, hk', h3', v1, v2', v3', h1, h2, h5, hLl, hz, instS, hms]
        ·rw [if_neg h1] at hmx
         by_cases h2 : (m.log.length : Int) < t.commit
         ·rw [if_pos h2] at hmx
          have h4 : ¬ (instS t m).commit < m.log.length := by omega
          rw [if_neg h4]
          have hms : min (max t.commit m.commit) (m.log.length : Int) = m.log.length := by omega
          simp (maxSteps := 1000000) [T, xf_change_handle, xf_change_handlers, xf_change_install, xf_change_frame_clear, U56, U102, U79, k1, mc, ad, hw0, hk', h3', v1, v2', v3', h1, h2, hLl, hz, instS, hms]
         ·rw [if_neg h2] at hmx
          have hms : min (max t.commit m.commit) (m.log.length : Int) = t.commit := by omega
          simp [instS, pokM, zeroM, encM, cellsM, encLog, encV, encS, cellsS, encAcks, encMarks, encBals, encAnss, hms] at o1
          by_cases h5 : t.commit < m.log.length
          ·have h4 : (instS t m).commit < m.log.length := by omega
           rw [if_pos h4]
           simp (maxSteps := 1000000) [T, xf_change_handle, xf_change_handlers, xf_change_install, xf_change_frame_clear, xf_change_frame_primary, xf_change_frame_one, U56, U102, U79, U82, U83, k1, mc, ad, hw0, hk', h3', v1, v2', v3', h1, h2, h5, hLl, hz, instS, hms, pr, o1]
          ·have h4 : ¬ (instS t m).commit < m.log.length := by omega
           rw [if_neg h4]
           simp (maxSteps := 1000000) [T, xf_change_handle, xf_change_handlers, xf_change_install, xf_change_frame_clear, U56, U102, U79, k1, mc, ad, hw0, hk', h3', v1, v2', v3', h1, h2, h5, hLl, hz, instS, hms]
       ·have v2' := eq_false v3
        by_cases h1 : t.commit < m.commit
        ·rw [if_pos h1] at hmx
         by_cases h2 : (m.log.length : Int) < m.commit
         ·rw [if_pos h2] at hmx
          have h4 : ¬ (instS t m).commit < m.log.length := by omega
          rw [if_neg h4]
          have hms : min (max t.commit m.commit) (m.log.length : Int) = m.log.length := by omega
          simp (maxSteps := 1000000) [T, xf_change_handle, xf_change_handlers, xf_change_install, xf_change_frame_clear, U56, U102, U79, k1, mc, ad, hw0, hk', h3', v1, v2', h1, h2, hLl, hz, instS, hms]
         ·rw [if_neg h2] at hmx
          have hms : min (max t.commit m.commit) (m.log.length : Int) = m.commit := by omega
          simp [instS, pokM, zeroM, encM, cellsM, encLog, encV, encS, cellsS, encAcks, encMarks, encBals, encAnss, hms] at o1
          by_cases h5 : m.commit < m.log.length
          ·have h4 : (instS t m).commit < m.log.length := by omega
           rw [if_pos h4]
           simp (maxSteps := 1000000) [T, xf_change_handle, xf_change_handlers, xf_change_install, xf_change_frame_clear, xf_change_frame_primary, xf_change_frame_one, U56, U102, U79, U82, U83, k1, mc, ad, hw0, hk', h3', v1, v2', h1, h2, h5, hLl, hz, instS, hms, pr, o1]
          ·have h4 : ¬ (instS t m).commit < m.log.length := by omega
           rw [if_neg h4]
           simp (maxSteps := 1000000) [T, xf_change_handle, xf_change_handlers, xf_change_install, xf_change_frame_clear, U56, U102, U79, k1, mc, ad, hw0, hk', h3', v1, v2', h1, h2, h5, hLl, hz, instS, hms]
        ·rw [if_neg h1] at hmx
         by_cases h2 : (m.log.length : Int) < t.commit
         ·rw [if_pos h2] at hmx
          have h4 : ¬ (instS t m).commit < m.log.length := by omega
          rw [if_neg h4]
          have hms : min (max t.commit m.commit) (m.log.length : Int) = m.log.length := by omega
          simp (maxSteps := 1000000) [T, xf_change_handle, xf_change_handlers, xf_change_install, xf_change_frame_clear, U56, U102, U79, k1, mc, ad, hw0, hk', h3', v1, v2', h1, h2, hLl, hz, instS, hms]
         ·rw [if_neg h2] at hmx
          have hms : min (max t.commit m.commit) (m.log.length : Int) = t.commit := by omega
          simp [instS, pokM, zeroM, encM, cellsM, encLog, encV, encS, cellsS, encAcks, encMarks, encBals, encAnss, hms] at o1
          by_cases h5 : t.commit < m.log.length
          ·have h4 : (instS t m).commit < m.log.length := by omega
           rw [if_pos h4]
           simp (maxSteps := 1000000) [T, xf_change_handle, xf_change_handlers, xf_change_install, xf_change_frame_clear, xf_change_frame_primary, xf_change_frame_one, U56, U102, U79, U82, U83, k1, mc, ad, hw0, hk', h3', v1, v2', h1, h2, h5, hLl, hz, instS, hms, pr, o1]
          ·have h4 : ¬ (instS t m).commit < m.log.length := by omega
           rw [if_neg h4]
           simp (maxSteps := 1000000) [T, xf_change_handle, xf_change_handlers, xf_change_install, xf_change_frame_clear, U56, U102, U79, k1, mc, ad, hw0, hk', h3', v1, v2', h1, h2, h5, hLl, hz, instS, hms]
   ·rw [if_pos hme, if_pos hme]
    generalize msgErr c m = ME at *
    simp [T, xf_change_handle, k1, mc, hk', hme, zeroS]
  ·have hk' := eq_false hk
   have hKE : kErr c s m 8 = 70 := by unfold kErr; rw [if_neg (show ¬ stateErr c s ≠ 0 by simp [he]), if_pos hk]
   rw [hKE, if_pos (by simp), if_pos (by simp)]
   simp [T, xf_change_handle, k1, hk', zeroS]
 ·have hKE : kErr c s m 8 = stateErr c s := by unfold kErr; rw [if_pos he]
  rw [hKE, if_pos he, if_pos he]
  generalize stateErr c s = SE at *
  simp [T, xf_change_handle, k1, he, zeroS]
end Go.Ax
