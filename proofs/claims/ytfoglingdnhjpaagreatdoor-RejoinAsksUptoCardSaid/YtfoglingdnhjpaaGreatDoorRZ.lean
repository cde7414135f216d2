/-
  A vote among others (answer), evaluated.
-/
import Derived.Test.YtfoglingdnhjpaaGreatDoorPA
import Derived.Test.YtfoglingdnhjpaaGreatDoorME
import Derived.Test.YtfoglingdnhjpaaGreatDoorSP
import Derived.Test.YtfoglingdnhjpaaGreatDoorED
import Derived.Test.YtfoglingdnhjpaaGreatDoorMF
import Derived.Test.YtfoglingdnhjpaaGreatDoorSS
import Derived.Test.YtfoglingdnhjpaaGreatDoorEC
namespace Go.Ax
set_option linter.all false
variable {n d : Nat}
set_option maxRecDepth 10000
set_option maxHeartbeats 8000000
def aboveAns (v x : Answer) : Bool := if v.view ≠ x.view then decide (x.view < v.view) else longerB v.log v.commit x.log x.commit
abbrev abAnswer (v x : Answer) : Bool := aboveAns v x
theorem e_tally_longer_a (l : List Ent) (a : Int) (k : List Ent) (b : Int) : runFn T n (d + 1) 207 [.dat (encLog l), .dat (di a), .dat (encLog k), .dat (di b)] [] = some (.dat (.bool (longerB l a k b)), []) := by
 rw [runFn_succ]
 unfold longerB
 have h : decide ((l.length : Int) = k.length) = decide (l.length = k.length) := by
  by_cases h : l.length = k.length
  ·rw [decide_eq_true h, decide_eq_true (by omega)]
  ·rw [decide_eq_false h, decide_eq_false (by omega)]
 simp [T, xf_tally_longer, h]
theorem e_answer_above (v x : Answer) : runFn T n (d + 2) 209 [.dat (encAns v), .dat (encAns x)] [] = some (.dat (.bool (abAnswer v x)), []) := by
 have h := e_tally_longer_a (n := n) (d := d) v.log v.commit x.log x.commit
 rw [runFn_succ]
 unfold abAnswer aboveAns
 by_cases h1 : v.view = x.view
 ·have h1' := eq_true h1
  have h2 : ¬ v.view ≠ x.view := by simp [h1]
  rw [if_neg h2]
  simp [T, xf_tally_answer_above, h, h1']
 ·have h1' := eq_false h1
  rw [if_pos h1]
  simp [T, xf_tally_answer_above, h1']
abbrev bxv_answer (x : Answer) : Blk := .box [.dat (di x.node), .dat (du x.draw.hi), .dat (du x.draw.lo), .dat (di x.view), .dat (di x.commit), .dat (encLog x.log)]
def upv_answer (v x : Answer) : Bool := decide (0 < cmp v.draw x.draw) || decide (cmp v.draw x.draw = 0) && abAnswer v x
theorem p0_answer (l : List Answer) (v : Answer) (hl : l.length ≤ 1048577) (hn : 1048577 < n) :
  (∃ j, ∃ hj : j < l.length, l[j].node = v.node ∧ loopAt (XCode.run (runFn T n (d + 2)) n 0 xf_tally_box_answer_put_b0) (headOf 0 xf_tally_box_answer_put_k0) n ⟨[(2, .ptr 0 0), (3, .ptr 1 0), (5, .dat (di l.length)), (6, .dat (.bool false)), (19, .dat (encAnss l)), (20, .dat (di l.length)), (21, .dat (di 0))], [.box [.dat (encAnss l)], bxv_answer v]⟩ = some (.exit 0, ⟨[(2, .ptr 0 0), (3, .ptr 1 0), (5, .dat (di j)), (6, .dat (.bool true))], [.box [.dat (encAnss l)], bxv_answer v, bxv_answer l[j]]⟩)) ∨
  ((∀ x ∈ l, x.node ≠ v.node) ∧ loopAt (XCode.run (runFn T n (d + 2)) n 0 xf_tally_box_answer_put_b0) (headOf 0 xf_tally_box_answer_put_k0) n ⟨[(2, .ptr 0 0), (3, .ptr 1 0), (5, .dat (di l.length)), (6, .dat (.bool false)), (19, .dat (encAnss l)), (20, .dat (di l.length)), (21, .dat (di 0))], [.box [.dat (encAnss l)], bxv_answer v]⟩ = some (.exit 0, ⟨[(2, .ptr 0 0), (3, .ptr 1 0), (5, .dat (di l.length)), (6, .dat (.bool false))], [.box [.dat (encAnss l)], bxv_answer v]⟩)) := by
 have main := loop_until (body := XCode.run (runFn T n (d + 2)) n 0 xf_tally_box_answer_put_b0) (head := headOf 0 xf_tally_box_answer_put_k0) (fun i => ⟨[(2, .ptr 0 0), (3, .ptr 1 0), (5, .dat (di l.length)), (6, .dat (.bool false)), (19, .dat (encAnss l)), (20, .dat (di l.length)), (21, .dat (di i))], [.box [.dat (encAnss l)], bxv_answer v]⟩) l.length (.exit 0, ⟨[(2, .ptr 0 0), (3, .ptr 1 0), (5, .dat (di l.length)), (6, .dat (.bool false))], [.box [.dat (encAnss l)], bxv_answer v]⟩) (fun i => (l[i]?.map (·.node)) = some v.node)
  (fun i => (.exit 0, ⟨[(2, .ptr 0 0), (3, .ptr 1 0), (5, .dat (di i)), (6, .dat (.bool true))], [.box [.dat (encAnss l)], bxv_answer v, bxv_answer (l.getD i default)]⟩)) (fun i hi hs => nextK_some ?_) (fun i hi hs => ⟨?_, fun s h => by cases h⟩) ?_ (fun s h => by cases h) l.length n 0 (by omega) (by omega)
 ·rcases main with ⟨j, _, hj, hs, _, e⟩ | ⟨hs, e⟩
  ·refine .inl ⟨j, hj, by simpa [hj] using hs, ?_⟩
   have hg : l.getD j default = l[j] := by simp [List.getD, hj]
   rw [hg] at e
   exact e
  ·refine .inr ⟨fun x hx h => ?_, e⟩
   obtain ⟨j, hj, rfl⟩ := List.mem_iff_getElem.1 hx
   exact hs j (Nat.zero_le _) hj (by simp [hj, h])
 ·have hi' : (i : Int) < l.length := by omega
  have hw := wrap_i i (by omega)
  have e1 := e_answer_node (n := n) (d := d + 1) l[i]
  have e2 := e_answer_node (n := n) (d := d + 1) v
  have hs' : ¬ l[i].node = v.node := by simpa [hi] using hs
  simp [xf_tally_box_answer_put_b0, xf_tally_box_answer_put_k0, hi, hi', hw, e1, e2, hs']
 ·have hi' : (i : Int) < l.length := by omega
  have e1 := e_answer_node (n := n) (d := d + 1) l[i]
  have e2 := e_answer_node (n := n) (d := d + 1) v
  have hs' : l[i].node = v.node := by simpa [hi] using hs
  have hs'' := eq_true hs'
  simp [xf_tally_box_answer_put_b0, hi, hi', e1, e2, hs'']
 ·simp [xf_tally_box_answer_put_b0]
theorem p1_answer (l : List Answer) (v : Answer) (hl : l.length ≤ 1048577) (hn : 1048577 < n) : ∃ j H, j ≤ l.length ∧ (∀ q (hq : q < l.length), q < j → ¬ v.node < l[q].node) ∧ (∀ hq : j < l.length, v.node < l[j].node) ∧
  loopAt (XCode.run (runFn T n (d + 2)) n 0 xf_tally_box_answer_put_b1) (headOf 0 xf_tally_box_answer_put_k1) n ⟨[(2, .ptr 0 0), (3, .ptr 1 0), (5, .dat (di l.length)), (6, .dat (.bool false)), (38, .dat (encAnss l)), (39, .dat (di l.length)), (40, .dat (di 0))], [.box [.dat (encAnss l)], bxv_answer v]⟩ = some (.exit 2, ⟨[(2, .ptr 0 0), (3, .ptr 1 0), (5, .dat (di j)), (6, .dat (.bool false))], H⟩) ∧ (H = [.box [.dat (encAnss l)], bxv_answer v] ∨ ∃ x, H = [.box [.dat (encAnss l)], bxv_answer v, bxv_answer x]) := by
 have main := loop_until (body := XCode.run (runFn T n (d + 2)) n 0 xf_tally_box_answer_put_b1) (head := headOf 0 xf_tally_box_answer_put_k1) (fun i => ⟨[(2, .ptr 0 0), (3, .ptr 1 0), (5, .dat (di l.length)), (6, .dat (.bool false)), (38, .dat (encAnss l)), (39, .dat (di l.length)), (40, .dat (di i))], [.box [.dat (encAnss l)], bxv_answer v]⟩) l.length (.exit 2, ⟨[(2, .ptr 0 0), (3, .ptr 1 0), (5, .dat (di l.length)), (6, .dat (.bool false))], [.box [.dat (encAnss l)], bxv_answer v]⟩) (fun i => ∃ h : i < l.length, v.node < l[i].node)
  (fun i => (.exit 2, ⟨[(2, .ptr 0 0), (3, .ptr 1 0), (5, .dat (di i)), (6, .dat (.bool false))], [.box [.dat (encAnss l)], bxv_answer v, bxv_answer (l.getD i default)]⟩)) (fun i hi hs => nextK_some ?_) (fun i hi hs => ⟨?_, fun s h => by cases h⟩) ?_ (fun s h => by cases h) l.length n 0 (by omega) (by omega)
 ·rcases main with ⟨j, _, hj, ⟨_, hs⟩, hq, e⟩ | ⟨hs, e⟩
  ·exact ⟨j, _, by omega, fun q h1 h2 h3 => hq q (Nat.zero_le _) h2 ⟨h1, h3⟩, fun _ => hs, e, .inr ⟨_, rfl⟩⟩
  ·exact ⟨l.length, _, Nat.le_refl _, fun q h1 h2 h3 => hs q (Nat.zero_le _) h1 ⟨h1, h3⟩, fun h => absurd h (by omega), e, .inl rfl⟩
 ·have hi' : (i : Int) < l.length := by omega
  have hw := wrap_i i (by omega)
  have e1 := e_answer_node (n := n) (d := d + 1) l[i]
  have e2 := e_answer_node (n := n) (d := d + 1) v
  have hs' : ¬ v.node < l[i].node := fun h => hs ⟨hi, h⟩
  simp [xf_tally_box_answer_put_b1, xf_tally_box_answer_put_k1, hi, hi', hw, e1, e2, hs']
 ·have hi' : (i : Int) < l.length := by omega
  have e1 := e_answer_node (n := n) (d := d + 1) l[i]
  have e2 := e_answer_node (n := n) (d := d + 1) v
  obtain ⟨_, hs'⟩ := hs
  simp [xf_tally_box_answer_put_b1, hi, hi', e1, e2, hs']
 ·simp [xf_tally_box_answer_put_b1]
def S_p2_answer (l : List Answer) (v : Answer) (at_ : Int) (b : Bool) (out : List Answer) (i : Nat) : St := ⟨[(2, .ptr 0 0), (3, .ptr 1 0), (5, .dat (di at_)), (6, .dat (.bool b)), (11, .own 2 0 out.length), (55, .dat (encAnss l)), (56, .dat (di l.length)), (57, .dat (di i))], [.box [.dat (encAnss l)], bxv_answer v, .arr 235 6 false false (out.map encAns)]⟩
theorem p2s_answer (l : List Answer) (v : Answer) (hl : l.length ≤ 1048577) (hg : ∀ x ∈ l, x.log.length ≤ 1048577) (hgv : v.log.length ≤ 1048577) (j : Nat) (hj : j < l.length) (hn : 1048577 < n) :
  loopAt (XCode.run (runFn T n (d + 2)) n 0 xf_tally_box_answer_put_b2) (headOf 0 xf_tally_box_answer_put_k2) n (S_p2_answer l v j true [] 0) = some (.exit 4, ⟨[(2, .ptr 0 0), (3, .ptr 1 0), (5, .dat (di j)), (11, .own 2 0 l.length)], (S_p2_answer l v j true (l.set j (if upv_answer v l[j] then v else l[j])) 0).H⟩) := by
 have hlen : ∀ i, i ≤ l.length → ((l.set j (if upv_answer v l[j] then v else l[j])).take i).length = i := fun i hi => by simp; omega
 have main := loop_for (body := XCode.run (runFn T n (d + 2)) n 0 xf_tally_box_answer_put_b2) (head := headOf 0 xf_tally_box_answer_put_k2) (fun i => S_p2_answer l v j true ((l.set j (if upv_answer v l[j] then v else l[j])).take i) i) l.length (.exit 4, ⟨[(2, .ptr 0 0), (3, .ptr 1 0), (5, .dat (di j)), (11, .own 2 0 l.length)], (S_p2_answer l v j true (l.set j (if upv_answer v l[j] then v else l[j])) 0).H⟩) (fun i hi => nextK_some ?_) ?_ (fun s h => by simp [S_p2_answer] at h) n (by omega)
 ·rw [List.take_zero] at main; exact main
 ·have hi' : (i : Int) < l.length := by omega
  have hw := wrap_i i (by omega)
  have hL : i + 1 ≤ LIM := by simp only [LIM]; omega
  have hsn : (l.set j (if upv_answer v l[j] then v else l[j])).take (i + 1) = (l.set j (if upv_answer v l[j] then v else l[j])).take i ++ [(l.set j (if upv_answer v l[j] then v else l[j]))[i]'(by simp; omega)] := List.take_succ_eq_append_getElem (by simp; omega)
  rw [hsn]
  have hl0 := hlen i (by omega)
  have e3 := e_answer_fresh (n := n) (d := d + 1) l[i] (hg _ (List.getElem_mem hi))
  have e4 := e_answer_fresh (n := n) (d := d + 1) v hgv
  by_cases hij : i = j
  ·subst hij
   have e5 := e_answer_draw (n := n) (d := d + 1) l[i]
   have e6 := e_answer_draw (n := n) (d := d + 1) v
   have e7 := p43 (n := n) (d := d + 1) v.draw l[i].draw
   have e8 := e_answer_above (n := n) (d := d) v l[i]
   have hget : (l.set i (if upv_answer v l[i] then v else l[i]))[i]'(by simp; omega) = (if upv_answer v l[i] then v else l[i]) := by simp
   rw [hget]
   generalize (l.set i (if upv_answer v l[i] then v else l[i])).take i = out at hl0 ⊢
   unfold upv_answer
   by_cases c1 : 0 < cmp v.draw l[i].draw
   ·simp [xf_tally_box_answer_put_b2, xf_tally_box_answer_put_k2, S_p2_answer, hi, hi', hw, hL, hl0, e3, e4, e5, e6, e7, c1]
   ·by_cases c2 : cmp v.draw l[i].draw = 0
    ·have c2' := eq_true c2
     cases c3 : abAnswer v l[i]
     ·(try rw [c3] at e8)
      simp [xf_tally_box_answer_put_b2, xf_tally_box_answer_put_k2, S_p2_answer, hi, hi', hw, hL, hl0, e3, e4, e5, e6, e7, e8, c1, c2', c3]
     ·(try rw [c3] at e8)
      (try cases c3)
      try simp [xf_tally_box_answer_put_b2, xf_tally_box_answer_put_k2, S_p2_answer, hi, hi', hw, hL, hl0, e3, e4, e5, e6, e7, e8, c1, c2', c3]
    ·have c2' := eq_false c2
     simp [xf_tally_box_answer_put_b2, xf_tally_box_answer_put_k2, S_p2_answer, hi, hi', hw, hL, hl0, e3, e4, e5, e6, e7, c1, c2']
  ·have hget : (l.set j (if upv_answer v l[j] then v else l[j]))[i]'(by simp; omega) = l[i] := by rw [List.getElem_set_ne (by omega)]
   rw [hget]
   generalize (l.set j (if upv_answer v l[j] then v else l[j])).take i = out at hl0 ⊢
   have hij' := eq_false hij
   have hij2 : ((i : Int) = j) = False := eq_false (by omega)
   simp [xf_tally_box_answer_put_b2, xf_tally_box_answer_put_k2, S_p2_answer, hi, hi', hw, hL, hl0, e3, hij', hij2]
 ·have := hlen l.length (Nat.le_refl _)
  rw [List.take_of_length_le (by simp)]
  simp [xf_tally_box_answer_put_b2, S_p2_answer]
def outN_answer (l : List Answer) (v : Answer) (j i : Nat) : List Answer := if i ≤ j then l.take i else l.take j ++ v :: (l.take i).drop j
theorem p2n_answer (l : List Answer) (v : Answer) (hl : l.length ≤ 1048577) (hg : ∀ x ∈ l, x.log.length ≤ 1048577) (hgv : v.log.length ≤ 1048577) (j : Nat) (hj : j ≤ l.length) (hn : 1048577 < n) :
  loopAt (XCode.run (runFn T n (d + 2)) n 0 xf_tally_box_answer_put_b2) (headOf 0 xf_tally_box_answer_put_k2) n (S_p2_answer l v j false [] 0) = some (.exit 4, ⟨[(2, .ptr 0 0), (3, .ptr 1 0), (5, .dat (di j)), (11, .own 2 0 (outN_answer l v j l.length).length)], (S_p2_answer l v j false (outN_answer l v j l.length) 0).H⟩) := by
 have main := loop_for (body := XCode.run (runFn T n (d + 2)) n 0 xf_tally_box_answer_put_b2) (head := headOf 0 xf_tally_box_answer_put_k2) (fun i => S_p2_answer l v j false (outN_answer l v j i) i) l.length (.exit 4, ⟨[(2, .ptr 0 0), (3, .ptr 1 0), (5, .dat (di j)), (11, .own 2 0 (outN_answer l v j l.length).length)], (S_p2_answer l v j false (outN_answer l v j l.length) 0).H⟩) (fun i hi => nextK_some ?_) ?_ (fun s h => by simp [S_p2_answer] at h) n (by omega)
 ·have : outN_answer l v j 0 = [] := by simp [outN_answer]
  rw [this] at main; exact main
 ·have hi' : (i : Int) < l.length := by omega
  have hw := wrap_i i (by omega)
  have hle : (outN_answer l v j i).length ≤ i + 1 := by unfold outN_answer; split <;> simp <;> omega
  have e3 := e_answer_fresh (n := n) (d := d + 1) l[i] (hg _ (List.getElem_mem hi))
  have e4 := e_answer_fresh (n := n) (d := d + 1) v hgv
  have hL : (outN_answer l v j i).length + 1 ≤ LIM := by simp only [LIM]; omega
  have hL2 : (outN_answer l v j i).length + 1 + 1 ≤ LIM := by simp only [LIM]; omega
  by_cases hij : i = j
  ·have hsn : outN_answer l v j (i + 1) = outN_answer l v j i ++ [v] ++ [l[i]] := by
    subst hij
    unfold outN_answer
    rw [if_neg (by omega), if_pos (Nat.le_refl _), List.take_succ_eq_append_getElem hi, List.drop_append_of_le_length (by simp; omega), List.drop_eq_nil_of_le (by simp; omega)]
    simp only [List.nil_append, List.append_assoc, List.singleton_append]
   rw [hsn]
   generalize outN_answer l v j i = out at *
   have hij' := eq_true hij
   subst hij
   simp [xf_tally_box_answer_put_b2, xf_tally_box_answer_put_k2, S_p2_answer, hi, hi', hw, hL, hL2, e3, e4]
  ·have hsn : outN_answer l v j (i + 1) = outN_answer l v j i ++ [l[i]] := by
    by_cases h1 : i < j
    ·unfold outN_answer
     rw [if_pos (by omega), if_pos (by omega), List.take_succ_eq_append_getElem hi]
    ·unfold outN_answer
     rw [if_neg (by omega), if_neg (by omega), List.take_succ_eq_append_getElem hi, List.drop_append_of_le_length (by simp; omega)]
     simp only [List.append_assoc, List.cons_append]
   rw [hsn]
   generalize outN_answer l v j i = out at *
   have hij' := eq_false hij
   have hij2 : ((i : Int) = j) = False := eq_false (by omega)
   simp [xf_tally_box_answer_put_b2, xf_tally_box_answer_put_k2, S_p2_answer, hi, hi', hw, hL, e3, hij', hij2]
 ·simp [xf_tally_box_answer_put_b2, S_p2_answer]
theorem e_put_answer (l : List Answer) (v : Answer) (hl : l.length ≤ 1048576) (hg : ∀ x ∈ l, x.log.length ≤ 1048577) (hgv : v.log.length ≤ 1048577) (hs : l.Pairwise (fun a b => a.node < b.node)) (hn : 1048577 < n) :
  runFn T n (d + 3) 173 [.dat (.agg [encAnss l]), .dat (encAns v)] [] = some (.dat (encAnss (putL (·.node) (upv_answer v) v l)), []) := by
 rw [runFn_succ]
 rcases p0_answer (n := n) (d := d) l v (by omega) hn with ⟨j, hj, he, e0⟩ | ⟨hne, e0⟩
 ·have e2 := p2s_answer (n := n) (d := d) l v (by omega) hg hgv j hj hn
  have hput := putL_same (fun x : Answer => x.node) (upv_answer v) v l j hj hs he
  have hset : l.set j (if upv_answer v l[j] then v else l[j]) = l.take j ++ (if upv_answer v l[j] then v else l[j]) :: l.drop (j + 1) := by rw [List.set_eq_take_append_cons_drop, if_pos hj]
  rw [← hset] at hput
  rw [hput]
  have hll : (l.set j (if upv_answer v l[j] then v else l[j])).length = l.length := by simp
  generalize l.set j (if upv_answer v l[j] then v else l[j]) = out at *
  have hjl : ¬ (j : Int) = l.length := by omega
  have htk : List.take l.length (List.map encAns out) = List.map encAns out := List.take_of_length_le (by simp [hll])
  simp [S_p2_answer, xf_tally_box_answer_put_k2] at e2
  simp [xf_tally_box_answer_put_k0] at e0
  simp [T, xf_tally_box_answer_put, xf_tally_box_answer_put_k0, xf_tally_box_answer_put_k1, xf_tally_box_answer_put_k2, e0, e2, hjl, htk, hll]
 ·obtain ⟨j, H, hj, h1, h2, e1, hH⟩ := p1_answer (n := n) (d := d) l v (by omega) hn
  have e2 := p2n_answer (n := n) (d := d) l v (by omega) hg hgv j hj hn
  have hput := putL_at (fun x : Answer => x.node) (upv_answer v) v l j hj (fun q hq hqj => by
   have a := h1 q hq hqj
   have b := hne l[q] (List.getElem_mem hq)
   omega) h2
  have e4 := e_answer_fresh (n := n) (d := d + 1) v hgv
  rw [hput]
  simp [S_p2_answer, xf_tally_box_answer_put_k2] at e2
  simp [xf_tally_box_answer_put_k0] at e0
  simp [xf_tally_box_answer_put_k1] at e1
  by_cases hjl : j = l.length
  ·have ho : outN_answer l v j l.length = l := by simp [outN_answer, hjl]
   rw [ho] at e2
   have ho2 : l.take j ++ v :: l.drop j = l ++ [v] := by simp [hjl]
   rw [ho2]
   subst hjl
   have hL : l.length + 1 ≤ LIM := by simp only [LIM]; omega
   rcases hH with rfl | ⟨x, rfl⟩ <;> simp [T, xf_tally_box_answer_put, xf_tally_box_answer_put_k0, xf_tally_box_answer_put_k1, xf_tally_box_answer_put_k2, e0, e1, e2, e4, hL] <;> exact take_snoc _ _ _
  ·have ho : outN_answer l v j l.length = l.take j ++ v :: l.drop j := by simp [outN_answer, show ¬ l.length ≤ j by omega]
   rw [ho] at e2
   have hjl' : ¬ (j : Int) = l.length := by omega
   generalize l.take j ++ v :: l.drop j = out at *
   rcases hH with rfl | ⟨x, rfl⟩ <;> simp [T, xf_tally_box_answer_put, xf_tally_box_answer_put_k0, xf_tally_box_answer_put_k1, xf_tally_box_answer_put_k2, e0, e1, e2, hjl']
theorem e_Put_answer (l : List Answer) (v : Answer) (hl : l.length ≤ 1048576) (hg : ∀ x ∈ l, x.log.length ≤ 1048577) (hgv : v.log.length ≤ 1048577) (hs : l.Pairwise (fun a b => a.node < b.node)) (hn : 1048577 < n) :
  runFn T n (d + 4) 134 [.dat (encAnss l), .dat (encAns v)] [] = some (.dat (encAnss (putL (·.node) (upv_answer v) v l)), []) := by
 have h1 := e_turned_Answer_answer (n := n) (d := d + 1) l (by omega) hn
 have h2 := e_put_answer (n := n) (d := d) l v hl hg hgv hs hn
 have hlen := putL_length (fun x : Answer => x.node) (upv_answer v) v l
 have h3 := e_turned_answer_Answer (n := n) (d := d + 1) (putL (fun x : Answer => x.node) (upv_answer v) v l) (by omega) hn
 rw [runFn_succ]
 simp [T, xf_tally_PutAnswer, h1, h2, h3]
end Go.Ax
namespace Go.Ax
set_option linter.all false
variable {n d : Nat}
set_option maxRecDepth 10000
set_option maxHeartbeats 8000000
def viewStep (v : Int) (a : Answer) : Int := if v < a.view then a.view else v
def topV (l : List Answer) : Int := l.foldl viewStep (l.headD default).view
def isTop (f v : Int) (a : Answer) : Bool := decide (a.view = v) && decide (a.node = v.tmod (2 * f + 1))
def zeroAns : Answer := ⟨0, ⟨0, 0⟩, 0, 0, []⟩
def settle (f : Int) (l : List Answer) : Option Answer := if (l.length : Int) < f + 1 then none else l.find? (isTop f (topV l))
theorem foldV_bd {l : List Answer} (h : ∀ x ∈ l, 0 ≤ x.view ∧ x.view ≤ 4294967296) : ∀ v : Int, (0 ≤ v ∧ v ≤ 4294967296) → 0 ≤ l.foldl viewStep v ∧ l.foldl viewStep v ≤ 4294967296 := by
 induction l with
 | nil => exact fun v h => h
 | cons x r ih =>
  intro v hv
  rw [List.foldl_cons]
  refine ih (fun y hy => h y (by simp [hy])) _ ?_
  have := h x (by simp)
  unfold viewStep
  split <;> omega
theorem topV_bd {l : List Answer} (hne : l ≠ []) (h : ∀ x ∈ l, 0 ≤ x.view ∧ x.view ≤ 4294967296) : 0 ≤ topV l ∧ topV l ≤ 4294967296 := by
 unfold topV
 refine foldV_bd h _ ?_
 cases l with
 | nil => exact absurd rfl hne
 | cons x r => exact h x (by simp)
abbrev boxZA : Blk := .box [.dat (di 0), .dat (du 0), .dat (du 0), .dat (di 0), .dat (di 0), .nil 50 5 true]
theorem rem_twice {v m : Int} (hv : 0 ≤ v ∧ v ≤ 4294967296) (hm : 3 ≤ m ∧ m ≤ 7) : IntKind.wrap .i64 (v.tmod m + m) = v.tmod m + m ∧ (v.tmod m + m).tmod m = v.tmod m ∧ 0 ≤ v.tmod m ∧ v.tmod m < m := by
 have h1 : 0 ≤ v.tmod m := Int.tmod_nonneg m hv.1
 have h2 : v.tmod m < m := Int.tmod_lt_of_pos v (by omega)
 refine ⟨wrap_small (by omega), ?_, h1, h2⟩
 rw [Int.tmod_eq_emod_of_nonneg (by omega), Int.add_emod_right, Int.emod_eq_of_lt h1 h2]
theorem l_st0 (cf : CallF) (f : Int) (l : List Answer) (v : Int) (hl : l.length ≤ 1048577) (hn : 1048577 < n) :
  loopAt (XCode.run cf n 0 xf_tally_Settle_b0) (headOf 0 xf_tally_Settle_k0) n ⟨[(0, .dat (di f)), (1, .dat (encAnss l)), (4, .ptr 0 0), (6, .dat (di v)), (30, .dat (encAnss l)), (31, .dat (di l.length)), (32, .dat (di 0))], [boxZA]⟩ =
  some (.exit 0, ⟨[(0, .dat (di f)), (1, .dat (encAnss l)), (4, .ptr 0 0), (6, .dat (di (l.foldl viewStep v)))], [boxZA]⟩) := by
 refine loop_fold (fun (i : Nat) v => ⟨[(0, .dat (di f)), (1, .dat (encAnss l)), (4, .ptr 0 0), (6, .dat (di v)), (30, .dat (encAnss l)), (31, .dat (di l.length)), (32, .dat (di i))], [boxZA]⟩) (fun _ _ => True) l viewStep
  (fun v => (.exit 0, ⟨[(0, .dat (di f)), (1, .dat (encAnss l)), (4, .ptr 0 0), (6, .dat (di v))], [boxZA]⟩)) v trivial (fun i v hi _ => ⟨trivial, nextK_some ?_⟩) (fun v _ => ?_) (fun a s h => by cases h) n (by omega)
 ·have hi' : (i : Int) < l.length := by omega
  have hw := wrap_i i (by omega)
  unfold viewStep
  simp [xf_tally_Settle_b0, xf_tally_Settle_k0, hi, hi', hw]
 ·simp [xf_tally_Settle_b0]
theorem l_st1 (f : Int) (l : List Answer) (v : Int) (hl : l.length ≤ 1048577) (hg : ∀ x ∈ l, x.log.length ≤ 1048577) (hf : 1 ≤ f ∧ f ≤ 3) (hv : 0 ≤ v ∧ v ≤ 4294967296) (hn : 1048577 < n) :
  loopAt (XCode.run (runFn T n (d + 1)) n 0 xf_tally_Settle_b1) (headOf 0 xf_tally_Settle_k1) n ⟨[(4, .ptr 0 0), (6, .dat (di v)), (9, .dat (di (2 * f + 1))), (44, .dat (encAnss l)), (45, .dat (di l.length)), (46, .dat (di 0))], [boxZA]⟩ =
  some ((l.find? (isTop f v)).elim (.exit 2, ⟨[(4, .ptr 0 0)], [boxZA]⟩) (fun x => (.ret, ⟨[(4, .ptr 0 0), (5, .dat (di 0))], [bxv_answer x, bxv_answer x]⟩))) := by
 obtain ⟨r1, r2, r3, r4⟩ := rem_twice hv (m := 2 * f + 1) (by omega)
 have hne : ¬ 2 * f + 1 = 0 := by omega
 refine loop_find (fun (i : Nat) => ⟨[(4, .ptr 0 0), (6, .dat (di v)), (9, .dat (di (2 * f + 1))), (44, .dat (encAnss l)), (45, .dat (di l.length)), (46, .dat (di i))], [boxZA]⟩) l (isTop f v) (fun x => (.ret, ⟨[(4, .ptr 0 0), (5, .dat (di 0))], [bxv_answer x, bxv_answer x]⟩)) _
  (fun i hi hp => ?_) (fun i hi hp => nextK_some ?_) ?_ (fun x s h => by cases h) (fun s h => by cases h) n (by omega)
 ·have hi' : (i : Int) < l.length := by omega
  unfold isTop at hp
  simp only [Bool.and_eq_true, decide_eq_true_eq] at hp
  have fr := e_answer_fresh (n := n) (d := d) l[i] (hg _ (List.getElem_mem hi))
  have h1 := eq_true hp.1
  have h2 := eq_true hp.2
  generalize hm : 2 * f + 1 = m at *
  simp [xf_tally_Settle_b1, hi, hi', r1, r2, hne, h1, h2, fr]
 ·have hi' : (i : Int) < l.length := by omega
  have hw := wrap_i i (by omega)
  unfold isTop at hp
  generalize hm : 2 * f + 1 = m at *
  by_cases h1 : l[i].view = v
  ·have h1' := eq_true h1
   have h2 : (l[i].node = v.tmod m) = False := by
    rw [decide_eq_true h1, Bool.true_and, decide_eq_false_iff_not] at hp
    exact eq_false hp
   simp [xf_tally_Settle_b1, xf_tally_Settle_k1, hi, hi', hw, r1, r2, hne, h1', h2]
  ·have h1' := eq_false h1
   simp [xf_tally_Settle_b1, xf_tally_Settle_k1, hi, hi', hw, r1, r2, hne, h1']
 ·simp [xf_tally_Settle_b1]
theorem e_tally_Settle (f : Int) (l : List Answer) (hl : l.length ≤ 1048577) (hg : ∀ x ∈ l, x.log.length ≤ 1048577) (hf : 1 ≤ f ∧ f ≤ 3) (hv : ∀ x ∈ l, 0 ≤ x.view ∧ x.view ≤ 4294967296) (hn : 1048577 < n) :
  runFn T n (d + 2) 135 [.dat (di f), .dat (encAnss l)] [] = some (.tup [.dat (encAns ((settle f l).getD zeroAns)), .dat (di (if (settle f l).isSome then 0 else 81))], []) := by
 have f1 : ¬ f < 1 := by omega
 have f2 : ¬ 3 < f := by omega
 have hw1 : IntKind.wrap .i64 (f + 1) = f + 1 := wrap_small (by omega)
 have hw2 : IntKind.wrap .i64 (2 * f) = 2 * f := wrap_small (by omega)
 have hw3 : IntKind.wrap .i64 (2 * f + 1) = 2 * f + 1 := wrap_small (by omega)
 rw [runFn_succ]
 unfold settle
 by_cases q : (l.length : Int) < f + 1
 ·simp only [q, if_true]
  simp [T, xf_tally_Settle, f1, f2, hw1, q, zeroAns]
 ·simp only [q, if_false]
  match l, q, hl, hg, hv with
  | [], q, _, _, _ => exact absurd (by simp; omega) q
  | x :: r, q, hl, hg, hv =>
   have h0 := l_st0 (n := n) (runFn T n (d + 1)) f (x :: r) x.view hl hn
   have hb := topV_bd (l := x :: r) (by simp) hv
   have ht : (x :: r).foldl viewStep x.view = topV (x :: r) := rfl
   rw [ht] at h0
   have h1 := l_st1 (n := n) (d := d) f (x :: r) (topV (x :: r)) hl hg hf hb hn
   have hx0 : (0 : Int) < ((x :: r).length : Nat) := by simp
   have hx1 : ((x :: r).map encAns)[0]? = some (encAns x) := rfl
   generalize topV (x :: r) = v at *
   generalize hlx : x :: r = l at *
   simp [xf_tally_Settle_k0] at h0
   simp [xf_tally_Settle_k1] at h1
   cases hfd : l.find? (isTop f v) with
   | none =>
    rw [hfd] at h1
    simp only [Option.elim_none] at h1
    simp [T, xf_tally_Settle, xf_tally_Settle_k0, xf_tally_Settle_k1, f1, f2, hw1, hw2, hw3, q, hx0, hx1, h0, h1, zeroAns]
   | some y =>
    rw [hfd] at h1
    simp only [Option.elim_some] at h1
    simp [T, xf_tally_Settle, xf_tally_Settle_k0, xf_tally_Settle_k1, f1, f2, hw1, hw2, hw3, q, hx0, hx1, h0, h1]
theorem e_ref06_Copy (l : List Ent) (hl : l.length ≤ 1048577) : runFn T n (d + 1) 99 [.dat (encLog l)] [] = some (.dat (encLog l), []) := by
 have hL : l.length ≤ LIM := by simp only [LIM]; omega
 rw [runFn_succ]
 simp [T, xf_ref06_Copy, hL]
theorem e_ref08_primary (f v : Int) (hf : 1 ≤ f ∧ f ≤ 3) (hv : 0 ≤ v ∧ v ≤ 4294967296) : runFn T n (d + 1) 98 [.dat (di f), .dat (di v)] [] = some (.dat (di (v.tmod (2 * f + 1))), []) := by
 have hw2 : IntKind.wrap .i64 (2 * f) = 2 * f := wrap_small (by omega)
 have hw3 : IntKind.wrap .i64 (2 * f + 1) = 2 * f + 1 := wrap_small (by omega)
 obtain ⟨_, _, r3, _⟩ := rem_twice hv (m := 2 * f + 1) (by omega)
 have hne : ¬ 2 * f + 1 = 0 := by omega
 have h0 : ¬ v.tmod (2 * f + 1) < 0 := by omega
 rw [runFn_succ]
 simp [T, xf_ref08_primary, hw2, hw3, hne, h0]
theorem l_rs0 (cf : CallF) (f : Int) (l : List Answer) (v : Int) (hl : l.length ≤ 1048577) (hn : 1048577 < n) :
  loopAt (XCode.run cf n 0 xf_ref08_Settle_b0) (headOf 0 xf_ref08_Settle_k0) n ⟨[(0, .dat (di f)), (1, .dat (encAnss l)), (4, .ptr 0 0), (6, .dat (di v)), (7, .dat (di 0))], [boxZA]⟩ =
  some (.exit 0, ⟨[(0, .dat (di f)), (1, .dat (encAnss l)), (4, .ptr 0 0), (6, .dat (di (l.foldl viewStep v)))], [boxZA]⟩) := by
 refine loop_fold (fun (i : Nat) v => ⟨[(0, .dat (di f)), (1, .dat (encAnss l)), (4, .ptr 0 0), (6, .dat (di v)), (7, .dat (di i))], [boxZA]⟩) (fun _ _ => True) l viewStep
  (fun v => (.exit 0, ⟨[(0, .dat (di f)), (1, .dat (encAnss l)), (4, .ptr 0 0), (6, .dat (di v))], [boxZA]⟩)) v trivial (fun i v hi _ => ⟨trivial, nextK_some ?_⟩) (fun v _ => ?_) (fun a s h => by cases h) n (by omega)
 ·have hi' : (i : Int) < l.length := by omega
  have hw := wrap_i i (by omega)
  unfold viewStep
  by_cases q : v < l[i].view
  ·simp [xf_ref08_Settle_b0, xf_ref08_Settle_k0, hi, hi', hw, q]
  ·simp [xf_ref08_Settle_b0, xf_ref08_Settle_k0, hi, hi', hw, q]
 ·simp [xf_ref08_Settle_b0]
theorem l_rs1 (f : Int) (l : List Answer) (v : Int) (hl : l.length ≤ 1048577) (hg : ∀ x ∈ l, x.log.length ≤ 1048577) (hf : 1 ≤ f ∧ f ≤ 3) (hv : 0 ≤ v ∧ v ≤ 4294967296) (hn : 1048577 < n) :
  loopAt (XCode.run (runFn T n (d + 1)) n 0 xf_ref08_Settle_b1) (headOf 0 xf_ref08_Settle_k1) n ⟨[(0, .dat (di f)), (1, .dat (encAnss l)), (4, .ptr 0 0), (6, .dat (di v)), (8, .dat (di 0))], [boxZA]⟩ =
  some ((l.find? (isTop f v)).elim (.exit 2, ⟨[(4, .ptr 0 0)], [boxZA]⟩) (fun x => (.ret, ⟨[(4, .ptr 0 0), (5, .dat (di 0))], [bxv_answer x, bxv_answer x]⟩))) := by
 have pr := e_ref08_primary (n := n) (d := d) f v hf hv
 refine loop_find (fun (i : Nat) => ⟨[(0, .dat (di f)), (1, .dat (encAnss l)), (4, .ptr 0 0), (6, .dat (di v)), (8, .dat (di i))], [boxZA]⟩) l (isTop f v) (fun x => (.ret, ⟨[(4, .ptr 0 0), (5, .dat (di 0))], [bxv_answer x, bxv_answer x]⟩)) _
  (fun i hi hp => ?_) (fun i hi hp => nextK_some ?_) ?_ (fun x s h => by cases h) (fun s h => by cases h) n (by omega)
 ·have hi' : (i : Int) < l.length := by omega
  unfold isTop at hp
  simp only [Bool.and_eq_true, decide_eq_true_eq] at hp
  have fr := e_ref06_Copy (n := n) (d := d) l[i].log (hg _ (List.getElem_mem hi))
  have h1 := eq_true hp.1
  have h2 := eq_true hp.2
  simp [xf_ref08_Settle_b1, hi, hi', h1, h2, pr, fr]
 ·have hi' : (i : Int) < l.length := by omega
  have hw := wrap_i i (by omega)
  unfold isTop at hp
  by_cases h1 : l[i].view = v
  ·have h1' := eq_true h1
   have h2 : (l[i].node = v.tmod (2 * f + 1)) = False := by
    rw [decide_eq_true h1, Bool.true_and, decide_eq_false_iff_not] at hp
    exact eq_false hp
   simp [xf_ref08_Settle_b1, xf_ref08_Settle_k1, hi, hi', hw, pr, h1', h2]
  ·have h1' := eq_false h1
   simp [xf_ref08_Settle_b1, xf_ref08_Settle_k1, hi, hi', hw, h1']
 ·simp [xf_ref08_Settle_b1]
theorem e_ref08_Settle (f : Int) (l : List Answer) (hl : l.length ≤ 1048577) (hg : ∀ x ∈ l, x.log.length ≤ 1048577) (hf : 1 ≤ f ∧ f ≤ 3) (hv : ∀ x ∈ l, 0 ≤ x.view ∧ x.view ≤ 4294967296) (hn : 1048577 < n) :
  runFn T n (d + 2) 60 [.dat (di f), .dat (encAnss l)] [] = some (.tup [.dat (encAns ((settle f l).getD zeroAns)), .dat (di (if (settle f l).isSome then 0 else 81))], []) := by
 have f1 : ¬ f < 1 := by omega
 have f2 : ¬ 3 < f := by omega
 have hw1 : IntKind.wrap .i64 (f + 1) = f + 1 := wrap_small (by omega)
 rw [runFn_succ]
 unfold settle
 by_cases q : (l.length : Int) < f + 1
 ·simp only [q, if_true]
  simp [T, xf_ref08_Settle, f1, f2, hw1, q, zeroAns]
 ·simp only [q, if_false]
  match l, q, hl, hg, hv with
  | [], q, _, _, _ => exact absurd (by simp; omega) q
  | x :: r, q, hl, hg, hv =>
   have h0 := l_rs0 (n := n) (runFn T n (d + 1)) f (x :: r) x.view hl hn
   have hb := topV_bd (l := x :: r) (by simp) hv
   have ht : (x :: r).foldl viewStep x.view = topV (x :: r) := rfl
   rw [ht] at h0
   have h1 := l_rs1 (n := n) (d := d) f (x :: r) (topV (x :: r)) hl hg hf hb hn
   have hx0 : (0 : Int) < ((x :: r).length : Nat) := by simp
   have hx1 : ((x :: r).map encAns)[0]? = some (encAns x) := rfl
   generalize topV (x :: r) = v at *
   generalize hlx : x :: r = l at *
   simp [xf_ref08_Settle_k0] at h0
   simp [xf_ref08_Settle_k1] at h1
   cases hfd : l.find? (isTop f v) with
   | none =>
    rw [hfd] at h1
    simp only [Option.elim_none] at h1
    simp [T, xf_ref08_Settle, xf_ref08_Settle_k0, xf_ref08_Settle_k1, f1, f2, hw1, q, hx0, hx1, h0, h1, zeroAns]
   | some y =>
    rw [hfd] at h1
    simp only [Option.elim_some] at h1
    simp [T, xf_ref08_Settle, xf_ref08_Settle_k0, xf_ref08_Settle_k1, f1, f2, hw1, q, hx0, hx1, h0, h1]
theorem e_ref08_more (a b c x y z : Int) : runFn T n (d + 1) 96 [.dat (di a), .dat (di b), .dat (di c), .dat (di x), .dat (di y), .dat (di z)] [] = some (.dat (.bool (if a ≠ x then decide (x < a) else if b ≠ y then decide (y < b) else decide (z < c))), []) := by
 rw [runFn_succ]
 by_cases h1 : a = x
 ·have h1' := eq_true h1
  rw [if_neg (by simp [h1])]
  by_cases h2 : b = y
  ·have h2' := eq_true h2
   rw [if_neg (by simp [h2])]
   simp [T, xf_ref08_more, h1', h2']
  ·have h2' := eq_false h2
   rw [if_pos h2]
   simp [T, xf_ref08_more, h1', h2']
 ·have h1' := eq_false h1
  rw [if_pos h1]
  simp [T, xf_ref08_more, h1']
theorem e_ref08_takes (a b : Draw) (g : Bool) : runFn T n (d + 3) 95 [.dat (encD a), .dat (encD b), .dat (.bool g)] [] = some (.dat (.bool (decide (0 < cmp a b) || decide (cmp a b = 0) && g)), []) := by
 have h := p64 (n := n) (d := d + 1) a b
 rw [runFn_succ]
 simp [T, xf_ref08_takes, h]
theorem l_ca (l : List Answer) (hl : l.length ≤ 1048578) (hg : ∀ x ∈ l, x.log.length ≤ 1048577) (hn : 1048579 < n) :
  loopAt (XCode.run (runFn T n (d + 1)) n 0 xf_ref08_CopyAnswers_b0) (headOf 0 xf_ref08_CopyAnswers_k0) n ⟨[(0, .dat (encAnss l)), (3, .own 0 0 0), (4, .dat (di 0))], [.arr 100 6 false false []]⟩ = some (.exit 0, ⟨[(3, .own 0 0 l.length)], [.arr 100 6 false false (l.map encAns)]⟩) := by
 refine loop_pre (fun p => ⟨[(0, .dat (encAnss l)), (3, .own 0 0 p.length), (4, .dat (di p.length))], [.arr 100 6 false false (p.map encAns)]⟩) l _ (fun p v r hp => ?_) ?_ (fun s h => by cases h) n (by omega)
 ·have hlen : p.length < l.length := by rw [hp]; simp
  have hi' : (p.length : Int) < l.length := by omega
  have hw := wrap_i p.length (by omega)
  have hget : l[p.length]? = some v := by rw [hp]; simp
  have hc := e_ref06_Copy (n := n) (d := d) v.log (hg v (by rw [hp]; simp))
  have hL : p.length + 1 ≤ LIM := by simp only [LIM]; omega
  simp [xf_ref08_CopyAnswers_b0, xf_ref08_CopyAnswers_k0, hi', hw, hget, hc, hL]
 ·simp [xf_ref08_CopyAnswers_b0]
theorem e_ref08_CopyAnswers (l : List Answer) (hl : l.length ≤ 1048578) (hg : ∀ x ∈ l, x.log.length ≤ 1048577) (hn : 1048579 < n) : runFn T n (d + 2) 97 [.dat (encAnss l)] [] = some (.dat (encAnss l), []) := by
 have h := l_ca (n := n) (d := d) l hl hg hn
 rw [runFn_succ]
 simp [xf_ref08_CopyAnswers_k0] at h
 simp [T, xf_ref08_CopyAnswers, xf_ref08_CopyAnswers_k0, h]
end Go.Ax
namespace Go.Ax
set_option linter.all false
set_option maxRecDepth 10000
set_option maxHeartbeats 4000000
def putAns (l : List Answer) (v : Answer) : List Answer := putL (·.node) (upv_answer v) v l
def ansOf (t : State) (m : Msg) : Answer := ⟨m.node, drawAt t m.node, m.view, m.commit, m.log⟩
def heardS (t : State) (m : Msg) : State := { t with answers := putAns t.answers (ansOf t m) }
def takeS (s : State) (view : Int) (log : List Ent) (commit : Int) : State := ⟨s.self, 1, view, view, log, min commit log.length, s.vector, 0, [], [], [], []⟩
def takeL (c : Cfg) (s : State) (view : Int) (log : List Ent) (commit : Int) : List Send := if (takeS s view log commit).commit < log.length then [oneS c (takeS s view log commit) (primaryOf c view) (pokM view log)] else []
def rrM (c : Cfg) (s : State) (m : Msg) : Msg := { zeroM with kind := 10, view := s.view, commit := if primaryOf c s.view = s.self then s.commit else 0, draw := m.draw, log := if primaryOf c s.view = s.self then s.log else [] }
def nsM (s : State) : Msg := { zeroM with kind := 12, view := s.view, commit := s.commit, log := s.log }
def deaf (t : State) (m : Msg) : Prop := t.status ≠ 3 ∨ m.draw ≠ drawAt t t.self
instance (t : State) (m : Msg) : Decidable (deaf t m) := by unfold deaf; infer_instance
def noNews (c : Cfg) (t : State) (m : Msg) : Prop := t.status = 3 ∨ primaryOf c m.view = t.self ∨ m.view < t.view ∨ (m.view = t.view ∧ t.status = 1 ∧ m.log.length ≤ t.log.length)
instance (c : Cfg) (t : State) (m : Msg) : Decidable (noNews c t m) := by unfold noNews; infer_instance
def rS10 (c : Cfg) (t : State) (m : Msg) : State := if deaf t m then t else match settle c.f (heardS t m).answers with
 | none => heardS t m
 | some a => takeS (heardS t m) a.view a.log a.commit
def rL10 (c : Cfg) (t : State) (m : Msg) : List Send := if deaf t m then [] else match settle c.f (heardS t m).answers with
 | none => []
 | some a => takeL c (heardS t m) a.view a.log a.commit
def rS12 (c : Cfg) (t : State) (m : Msg) : State := if noNews c t m then t else takeS t m.view m.log (max t.commit m.commit)
def rL12 (c : Cfg) (t : State) (m : Msg) : List Send := if noNews c t m then [] else takeL c t m.view m.log (max t.commit m.commit)
def rL9 (c : Cfg) (t : State) (m : Msg) : List Send := if t.status = 1 then [oneS c t m.node (rrM c t m)] else []
def rL11 (c : Cfg) (t : State) (m : Msg) : List Send := if t.status = 1 ∧ m.view = t.view then [oneS c t m.node (nsM t)] else []
def rStepS (k : Int) (c : Cfg) (t : State) (m : Msg) : State := if k = 10 then rS10 c t m else if k = 12 then rS12 c t m else t
def rStepL (k : Int) (c : Cfg) (t : State) (m : Msg) : List Send := if k = 9 then rL9 c t m else if k = 10 then rL10 c t m else if k = 11 then rL11 c t m else rL12 c t m
def rCallS (k : Int) (c : Cfg) (s : State) (m : Msg) : State := if kErr c s m k ≠ 0 then zeroS else if admB c s m = false then admS c s m else rStepS k c (admS c s m) m
def rCallL (k : Int) (c : Cfg) (s : State) (m : Msg) : List Send := if kErr c s m k ≠ 0 then [] else if admB c s m = false then [] else rStepL k c (admS c s m) m
theorem settle_mem {f : Int} {l : List Answer} {a : Answer} (h : settle f l = some a) : a ∈ l ∧ a.view = topV l ∧ a.node = a.view.tmod (2 * f + 1) := by
 unfold settle at h
 split at h
 ·cases h
 ·have h1 := List.mem_of_find?_eq_some h
  have h2 := List.find?_some h
  unfold isTop at h2
  simp only [Bool.and_eq_true, decide_eq_true_eq] at h2
  exact ⟨h1, h2.1, by rw [h2.1]; exact h2.2⟩
end Go.Ax
namespace Go.Ax
set_option linter.all false
set_option maxRecDepth 10000
set_option maxHeartbeats 4000000
theorem msg_log2 {c : Cfg} {m : Msg} (h : msgErr c m = 0) (hk : m.kind = 10 ∨ m.kind = 12) : logErr m.log c.room = 0 ∧ 0 ≤ m.commit ∧ m.commit ≤ m.log.length := by
 obtain ⟨_, _, _, _, _, g1, _, gt⟩ := msg_nums h
 have hu : ub m.kind 8 = true := by rcases hk with e | e <;> rw [e] <;> decide
 have hr := msg_rest h
 unfold restOk at hr
 simp only [hu, Bool.and_eq_true, Bool.not_true, Bool.false_or, decide_eq_true_eq] at hr
 have h2 : numsEnd m = true := by
  unfold numsTail at gt
  rw [if_neg (by omega), if_neg (by omega), if_neg (by omega), if_neg (by omega), if_neg (by omega)] at gt
  exact gt
 unfold numsEnd at h2
 simp only [hu, Bool.and_eq_true, Bool.not_true, Bool.false_or, decide_eq_true_eq] at h2
 exact ⟨hr.2.2.2.2.1, g1, h2.2⟩
theorem msg_late {c : Cfg} {m : Msg} (h : msgErr c m = 0) (hk : m.kind = 10) : m.log = [] ∨ m.node = m.view.tmod (NN c) := by
 have hr := msg_rest h
 unfold restOk at hr
 simp only [Bool.and_eq_true] at hr
 have h2 := hr.2.2.2.2.2.2
 unfold lateLog at h2
 rw [decide_eq_true hk] at h2
 simp only [Bool.true_and, Bool.not_eq_true', Bool.and_eq_false_iff, Bool.not_eq_false', decide_eq_true_eq] at h2
 exact h2
theorem take_ok {c : Cfg} {s : State} {view commit : Int} {log : List Ent} (hok : stateErr c s = 0) (hv : 0 ≤ view ∧ view ≤ 4294967296) (hl : logErr log c.room = 0) (hk : 0 ≤ commit) : stateErr c (takeS s view log commit) = 0 := by
 obtain ⟨hc, h1, h2, h3, h4⟩ := head_of hok
 refine zeroOk hc h1 hv rfl rfl h3 ?_ ⟨rfl, rfl, rfl, rfl⟩ rfl
 rw [logOk_iff]
 refine ⟨hl, ?_, ?_⟩ <;> simp only [takeS] <;> omega
theorem one_err {c : Cfg} {X : State} {to : Int} (h : stateErr c X = 0) (ht : 0 ≤ to ∧ to < nodesOf c ∧ to ≠ X.self) : oneErr c X to = 0 := by
 unfold oneErr
 rw [if_neg (by simp [h])]
 have : toOk c X to = true := by simp [toOk, ht.1, ht.2.1, ht.2.2]
 rw [this]
 rfl
theorem VL.put_ans {u : State} {l : List Answer} (h : VL u (l.map ansM)) (up : Answer → Bool) (v : Answer) (hv : -1 < v.node ∧ v.node < u.vector.length ∧ v.node ≠ u.self ∧ u.vector.getD v.node.toNat ⟨0, 0⟩ = v.draw) : VL u ((putL (·.node) up v l).map ansM) := by
 obtain ⟨h1, h2⟩ := h
 rw [List.pairwise_map] at h2
 refine ⟨fun x hx => ?_, ?_⟩
 ·obtain ⟨y, hy, rfl⟩ := List.mem_map.1 hx
  rcases putL_mem _ _ _ _ _ hy with rfl | hy
  ·exact hv
  ·exact h1 _ (List.mem_map.2 ⟨y, hy, rfl⟩)
 ·rw [List.pairwise_map]
  exact putL_sorted _ _ _ _ h2
theorem answers_of {c : Cfg} {u : State} (h : stateErr c u = 0) : ∀ a ∈ u.answers, 0 ≤ a.view ∧ a.view ≤ 4294967296 ∧ logOk c a.log a.commit = true ∧ a.node ≠ u.self ∧ (-1 < a.node ∧ a.node < nodesOf c) := by
 have hl := (head_of h).2.2.2.1
 rw [stateErr_iff] at h
 obtain ⟨hc, hh, _, hv, hb⟩ := h
 rw [votedVL] at hv
 intro a ha
 have hv4 := hv.2.2.2.1 (ansM a) (List.mem_map.2 ⟨a, ha, rfl⟩)
 have hn : -1 < a.node ∧ a.node < u.vector.length ∧ a.node ≠ u.self := ⟨hv4.1, hv4.2.1, hv4.2.2.1⟩
 unfold bodyOk at hb
 by_cases q1 : u.status = 1
 ·rw [if_pos q1] at hb
  unfold normalOk at hb
  simp only [Bool.and_eq_true, List.isEmpty_iff] at hb
  rw [hb.1.2] at ha; cases ha
 ·rw [if_neg q1] at hb
  by_cases q2 : u.status = 2
  ·rw [if_pos q2] at hb
   unfold changingOk at hb
   simp only [Bool.and_eq_true, Bool.not_eq_true', Bool.or_eq_false_iff, Bool.not_eq_false', List.isEmpty_iff] at hb
   rw [hb.1.1.1.2] at ha; cases ha
  ·rw [if_neg q2] at hb
   by_cases q3 : u.status = 3
   ·rw [if_pos q3] at hb
    unfold recoverOk at hb
    simp only [Bool.and_eq_true, Option.isNone_iff_eq_none, List.find?_eq_none] at hb
    have := hb.2 a ha
    unfold badAns at this
    simp only [Bool.or_eq_true, decide_eq_true_eq, Bool.not_eq_true', Bool.and_eq_true, not_or, Bool.not_eq_false] at this
    exact ⟨by omega, by omega, this.1.2, hn.2.2, hn.1, by omega⟩
   ·rw [if_neg q3] at hb; cases hb
theorem heard_ok {c : Cfg} {t : State} {m : Msg} (h : stateErr c t = 0) (hm : msgErr c m = 0) (hk : m.kind = 10) (hne : m.node ≠ t.self) (hs : t.status = 3) : stateErr c (heardS t m) = 0 := by
 obtain ⟨_, g1, g2, g3, g4, _⟩ := msg_nums hm
 obtain ⟨_, h1, _⟩ := nodes_ok h
 obtain ⟨l1, l2, l3⟩ := msg_log2 hm (.inl hk)
 have hlate := msg_late hm hk
 have hmn := (head_of h).1
 rw [stateErr_iff] at h ⊢
 obtain ⟨hc, hh, hl, hv, hb⟩ := h
 refine ⟨hc, hh, hl, ?_, ?_⟩
 ·rw [votedVL] at hv ⊢
  exact ⟨hv.1, hv.2.1, hv.2.2.1, hv.2.2.2.put_ans _ _ ⟨by show -1 < m.node; omega, by show m.node < t.vector.length; omega, hne, rfl⟩⟩
 ·unfold bodyOk at hb ⊢
  rw [show (heardS t m).status = t.status from rfl]
  rw [if_neg (by omega), if_neg (by omega), if_pos hs] at hb ⊢
  unfold recoverOk at hb ⊢
  rw [show recHead (heardS t m) = recHead t from rfl, show selfDraw (heardS t m) = selfDraw t from rfl]
  simp only [Bool.and_eq_true, Option.isNone_iff_eq_none, List.find?_eq_none] at hb ⊢
  refine ⟨hb.1, fun a ha => ?_⟩
  rcases putL_mem _ _ _ _ _ ha with rfl | ha
  ·unfold badAns ansOf
   have hp : primaryOf c m.view = m.view.tmod (NN c) := by unfold primaryOf; rw [if_pos ⟨hmn, g3, g4⟩]
   have hlo : logOk c m.log m.commit = true := (logOk_iff _ _ _).2 ⟨l1, l2, l3⟩
   have hx : (decide (m.node = primaryOf c m.view) || m.log.isEmpty) = true := by
    rw [hp]
    rcases hlate with e | e
    ·rw [e]; simp
    ·rw [decide_eq_true e]; rfl
   simp only [hlo, Bool.not_true, Bool.or_false, Bool.or_eq_true, decide_eq_true_eq, Bool.and_eq_true, Bool.not_eq_true', not_or, not_and]
   simp only [Bool.or_eq_true, decide_eq_true_eq] at hx
   refine ⟨⟨by omega, by omega⟩, fun h1 h2 => ?_⟩
   rcases hx with e | e
   ·simp [e] at h1
   ·rw [e] at h2; cases h2
  ·exact hb.2 a ha
theorem settle_ok {c : Cfg} {u : State} {a : Answer} (hu : stateErr c u = 0) (h : settle c.f u.answers = some a) : stateErr c (takeS u a.view a.log a.commit) = 0 ∧ (0 ≤ primaryOf c a.view ∧ primaryOf c a.view < nodesOf c ∧ primaryOf c a.view ≠ u.self) ∧ primaryOf c a.view = a.node := by
 obtain ⟨h1, _, h3⟩ := settle_mem h
 obtain ⟨a1, a2, a3, a4, a5⟩ := answers_of hu a h1
 rw [logOk_iff] at a3
 have hp : primaryOf c a.view = a.node := by unfold primaryOf; rw [if_pos ⟨(head_of hu).1, a1, a2⟩, h3]
 exact ⟨take_ok hu ⟨a1, a2⟩ a3.1 a3.2.1, by rw [hp]; exact ⟨by omega, a5.2, a4⟩, hp⟩
end Go.Ax
namespace Go.Ax
set_option linter.all false
variable {n d : Nat}
set_option maxRecDepth 10000
set_option maxHeartbeats 8000000
abbrev nilSd : AV := .nil 71 19 false
abbrev stepB (c : Cfg) (s : State) (out : AV) (m : Msg) : Blk := .box [.dat (di c.f), .dat (di c.room), .dat (di c.patience), .dat (.bool c.unguarded), .dat (di s.self), .dat (di s.status), .dat (di s.view), .dat (di s.last), .dat (encLog s.log), .dat (di s.commit), .dat (encV s.vector), .dat (di s.idle), .dat (encAcks s.acks), .dat (encMarks s.marks), .dat (encBals s.ballots), .dat (encAnss s.answers), out,
 .dat (di m.kind), .dat (di m.node), .dat (di m.view), .dat (di m.entry.client), .dat (di m.entry.number), .dat (di m.entry.op.kind), .dat (di m.entry.op.slot), .dat (.str m.entry.op.value), .dat (di m.result.code), .dat (di m.result.slot), .dat (.str m.result.value), .dat (di m.place), .dat (di m.commit), .dat (di m.last), .dat (du m.draw.hi), .dat (du m.draw.lo), .dat (encLog m.log), .dat (encV m.vector)]
abbrev stepT (c : Cfg) (s : State) (lg out : AV) (m : Msg) : Blk := .box [.dat (di c.f), .dat (di c.room), .dat (di c.patience), .dat (.bool c.unguarded), .dat (di s.self), .dat (di 1), .dat (di s.view), .dat (di s.last), lg, .dat (di s.commit), .dat (encV s.vector), .dat (di 0), .nil 123 4 true, .nil 125 3 true, .nil 98 6 false, .nil 100 6 false, out,
 .dat (di m.kind), .dat (di m.node), .dat (di m.view), .dat (di m.entry.client), .dat (di m.entry.number), .dat (di m.entry.op.kind), .dat (di m.entry.op.slot), .dat (.str m.entry.op.value), .dat (di m.result.code), .dat (di m.result.slot), .dat (.str m.result.value), .dat (di m.place), .dat (di m.commit), .dat (di m.last), .dat (du m.draw.hi), .dat (du m.draw.lo), .dat (encLog m.log), .dat (encV m.vector)]
abbrev sdB (l : List Send) : Blk := .arr 71 19 false false (l.map encSd)
def Left (c : Cfg) (m : Msg) (H : List Blk) (t : State) (L : List Send) : Prop :=
 (H = [stepB c t nilSd m] ∧ L = []) ∨ (∃ x, H = [stepB c t (.own 1 0 1) m, sdB [x]] ∧ L = [x]) ∨
 (t.status = 1 ∧ t.idle = 0 ∧ t.acks = [] ∧ t.marks = [] ∧ t.ballots = [] ∧ t.answers = [] ∧
  ((H = [stepT c t (.own 1 0 t.log.length) nilSd m, .arr 50 5 true false (t.log.map encE)] ∧ L = []) ∨ ∃ z x, H = [stepT c t (.own 1 0 t.log.length) (.own 2 0 1) m, .arr 50 5 true z (t.log.map encE), sdB [x]] ∧ L = [x]))
theorem e_one_a (c : Cfg) (s : State) (m0 : Msg) (to : Int) (m : Msg) (hs : Small2 s) (hm : SmallM m) (he : oneErr c s to = 0) (hn : 1048577 < n) :
  runFn T n (d + 7) 133 [.ptr 0 0, .dat (di to), .dat (encM m)] [stepB c s nilSd m0] = some (.tup [], [stepB c s (.own 1 0 1) m0, sdB [oneS c s to m]]) := by
 have h := e_core_One (n := n) (d := d) c s to m hs hm hn
 rw [he] at h
 have hL : 1 ≤ LIM := by simp only [LIM]; omega
 generalize oneS c s to m = x at *
 rw [runFn_succ]
 simp (maxSteps := 1000000) [T, xf_rejoin_part_one, h, hL]
theorem e_one_t (c : Cfg) (s : State) (m0 : Msg) (to : Int) (m : Msg) (hs : Small2 s) (hm : SmallM m) (he : oneErr c s to = 0) (hst : s.status = 1 ∧ s.idle = 0 ∧ s.acks = [] ∧ s.marks = [] ∧ s.ballots = [] ∧ s.answers = []) (hn : 1048577 < n) :
  ∃ z, runFn T n (d + 7) 133 [.ptr 0 0, .dat (di to), .dat (encM m)] [stepT c s (.own 1 0 s.log.length) nilSd m0, .arr 50 5 true false (s.log.map encE)] = some (.tup [], [stepT c s (.own 1 0 s.log.length) (.own 2 0 1) m0, .arr 50 5 true z (s.log.map encE), sdB [oneS c s to m]]) := by
 have h := e_core_One (n := n) (d := d) c s to m hs hm hn
 rw [he] at h
 have hL : 1 ≤ LIM := by simp only [LIM]; omega
 generalize oneS c s to m = x at *
 obtain ⟨q1, q2, q3, q4, q5, q6⟩ := hst
 have a1 : encAcks [] = .sl 4 true [] := rfl
 have a2 : encMarks [] = .sl 3 true [] := rfl
 have a3 : encBals [] = .sl 6 false [] := rfl
 have a4 : encAnss [] = .sl 6 false [] := rfl
 unfold encS cellsS at h
 rw [q1, q2, q3, q4, q5, q6, a1, a2, a3, a4] at h
 rw [runFn_succ]
 refine ⟨true, ?_⟩
 simp (maxSteps := 1000000) [T, xf_rejoin_part_one, h, hL]
theorem e_rejoin_take (c : Cfg) (s : State) (m0 : Msg) (view commit : Int) (log : List Ent) (hs : Small2 s) (hl : log.length ≤ 1048576) (he : oneErr c (takeS s view log commit) (primaryOf c view) = 0) (hn : 1048577 < n) :
  ∃ H, runFn T n (d + 8) 136 [.ptr 0 0, .dat (di view), .dat (encLog log), .dat (di commit)] [stepB c s nilSd m0] = some (.tup [], H) ∧
   ((H = [stepT c (takeS s view log commit) (.own 1 0 log.length) nilSd m0, .arr 50 5 true false (log.map encE)] ∧ takeL c s view log commit = []) ∨
    ∃ z x, takeL c s view log commit = [x] ∧ H = [stepT c (takeS s view log commit) (.own 1 0 log.length) (.own 2 0 1) m0, .arr 50 5 true z (log.map encE), sdB [x]]) := by
 have hts : Small2 (takeS s view log commit) := by
  refine ⟨⟨?_, ?_, by simp [takeS], by simp [takeS], by simp [takeS], by simp [takeS], by simp [takeS], by simp [takeS]⟩, ?_, ?_, by simp [takeS], by simp [takeS]⟩
  ·simp only [takeS]; omega
  ·exact hs.vector
  ·exact hl
  ·exact hs.vector2
 obtain ⟨z, h1⟩ := e_one_t (n := n) (d := d) c (takeS s view log commit) m0 (primaryOf c view) (pokM view log) hts ⟨by simp [pokM, zeroM], by simp [pokM, zeroM]⟩ he ⟨rfl, rfl, rfl, rfl, rfl, rfl⟩ hn
 have pr := e_core_Primary (n := n) (d := d + 4) c view
 have hL : log.length ≤ LIM := by simp only [LIM]; omega
 have hmin : min commit (log.length : Int) = if (log.length : Int) < commit then (log.length : Int) else commit := by split <;> omega
 have hz : ByteArray.empty = ⟨#[]⟩ := rfl
 have hv0 : encV [] = .sl 2 true [] := rfl
 have hl0 : encLog [] = .sl 5 true [] := rfl
 unfold takeL
 by_cases q : (takeS s view log commit).commit < log.length
 ·rw [if_pos q]
  refine ⟨_, ?_, .inr ⟨z, _, rfl, rfl⟩⟩
  generalize oneS c (takeS s view log commit) (primaryOf c view) (pokM view log) = x at *
  unfold encM cellsM at h1
  simp only [takeS, pokM, zeroM, hmin, hz, hv0, hl0] at h1 q ⊢
  rw [runFn_succ]
  simp (maxSteps := 1000000) [T, xf_rejoin_part_take, hL, pr, h1, q]
 ·rw [if_neg q]
  refine ⟨_, ?_, .inl ⟨rfl, rfl⟩⟩
  simp only [takeS, hmin] at q ⊢
  rw [runFn_succ]
  simp (maxSteps := 1000000) [T, xf_rejoin_part_take, hL, q]
theorem e_step_recovery (c : Cfg) (t : State) (m : Msg) (hs : Small2 t) (hm : SmallM m) (he : oneErr c t m.node = 0) (hn : 1048577 < n) :
  ∃ H, runFn T n (d + 9) 89 [.ptr 0 0] [stepB c t nilSd m] = some (.tup [], H) ∧ Left c m H t (rL9 c t m) := by
 have pr := e_core_Primary (n := n) (d := d + 5) c t.view
 have hmr : SmallM (rrM c t m) := ⟨by unfold rrM; simp only; split; exact hs.log2; simp, by simp [rrM, zeroM]⟩
 have h1 := e_one_a (n := n) (d := d + 1) c t m m.node (rrM c t m) hs hmr he hn
 have hz : ByteArray.empty = ⟨#[]⟩ := rfl
 have hv0 : encV [] = .sl 2 true [] := rfl
 have hl0 : encLog [] = .sl 5 true [] := rfl
 unfold rL9
 by_cases q : t.status = 1
 ·have q' := eq_true q
  rw [if_pos q]
  refine ⟨_, ?_, .inr (.inl ⟨_, rfl, rfl⟩)⟩
  generalize oneS c t m.node (rrM c t m) = x at *
  unfold encM cellsM at h1
  by_cases p : primaryOf c t.view = t.self
  ·have p' := eq_true p
   simp only [rrM, zeroM, p', if_true, hz, hv0] at h1
   rw [runFn_succ]
   simp (maxSteps := 1000000) [T, xf_rejoin_step_recovery, pr, q', p', h1]
  ·have p' := eq_false p
   simp only [rrM, zeroM, p', if_false, hz, hv0, hl0] at h1
   rw [runFn_succ]
   simp (maxSteps := 1000000) [T, xf_rejoin_step_recovery, pr, q', p', h1]
 ·have q' := eq_false q
  rw [if_neg q]
  refine ⟨_, ?_, .inl ⟨rfl, rfl⟩⟩
  rw [runFn_succ]
  simp (maxSteps := 1000000) [T, xf_rejoin_step_recovery, q']
theorem e_step_getState (c : Cfg) (t : State) (m : Msg) (hs : Small2 t) (hm : SmallM m) (he : oneErr c t m.node = 0) (hn : 1048577 < n) :
  ∃ H, runFn T n (d + 9) 91 [.ptr 0 0] [stepB c t nilSd m] = some (.tup [], H) ∧ Left c m H t (rL11 c t m) := by
 have h1 := e_one_a (n := n) (d := d + 1) c t m m.node (nsM t) hs ⟨hs.log2, by simp [nsM, zeroM]⟩ he hn
 have hz : ByteArray.empty = ⟨#[]⟩ := rfl
 have hv0 : encV [] = .sl 2 true [] := rfl
 unfold rL11
 by_cases q : t.status = 1
 ·have q' := eq_true q
  by_cases p : m.view = t.view
  ·have p' := eq_true p
   rw [if_pos ⟨q, p⟩]
   refine ⟨_, ?_, .inr (.inl ⟨_, rfl, rfl⟩)⟩
   generalize oneS c t m.node (nsM t) = x at *
   unfold encM cellsM at h1
   simp only [nsM, zeroM, hz, hv0] at h1
   rw [runFn_succ]
   simp (maxSteps := 1000000) [T, xf_rejoin_step_getState, q', p', h1]
  ·have p' := eq_false p
   rw [if_neg (fun h => p h.2)]
   refine ⟨_, ?_, .inl ⟨rfl, rfl⟩⟩
   rw [runFn_succ]
   simp (maxSteps := 1000000) [T, xf_rejoin_step_getState, q', p']
 ·have q' := eq_false q
  rw [if_neg (fun h => q h.1)]
  refine ⟨_, ?_, .inl ⟨rfl, rfl⟩⟩
  rw [runFn_succ]
  simp (maxSteps := 1000000) [T, xf_rejoin_step_getState, q']
theorem Left.take {c : Cfg} {m : Msg} {H : List Blk} {s : State} {view commit : Int} {log : List Ent} (h : (H = [stepT c (takeS s view log commit) (.own 1 0 log.length) nilSd m, .arr 50 5 true false (log.map encE)] ∧ takeL c s view log commit = []) ∨
       ∃ z x, takeL c s view log commit = [x] ∧ H = [stepT c (takeS s view log commit) (.own 1 0 log.length) (.own 2 0 1) m, .arr 50 5 true z (log.map encE), sdB [x]]) : Left c m H (takeS s view log commit) (takeL c s view log commit) := by
 refine .inr (.inr ⟨rfl, rfl, rfl, rfl, rfl, rfl, ?_⟩)
 rcases h with ⟨rfl, e⟩ | ⟨z, x, e, rfl⟩
 ·exact .inl ⟨rfl, e⟩
 ·exact .inr ⟨z, x, rfl, e⟩
theorem e_step_newState (c : Cfg) (t : State) (m : Msg) (hs : Small2 t) (hm : SmallM m) (he : ¬ noNews c t m → oneErr c (takeS t m.view m.log (max t.commit m.commit)) (primaryOf c m.view) = 0) (hn : 1048577 < n) :
  ∃ H, runFn T n (d + 9) 92 [.ptr 0 0] [stepB c t nilSd m] = some (.tup [], H) ∧ Left c m H (rS12 c t m) (rL12 c t m) := by
 have pr := e_core_Primary (n := n) (d := d + 5) c m.view
 unfold rS12 rL12
 by_cases q1 : t.status = 3
 ·have q1' := eq_true q1
  rw [if_pos (.inl q1), if_pos (.inl q1)]
  refine ⟨_, ?_, .inl ⟨rfl, rfl⟩⟩
  rw [runFn_succ]
  simp (maxSteps := 1000000) [T, xf_rejoin_step_newState, q1']
 ·have q1' := eq_false q1
  by_cases q2 : primaryOf c m.view = t.self
  ·have q2' := eq_true q2
   rw [if_pos (.inr (.inl q2)), if_pos (.inr (.inl q2))]
   refine ⟨_, ?_, .inl ⟨rfl, rfl⟩⟩
   rw [runFn_succ]
   simp (maxSteps := 1000000) [T, xf_rejoin_step_newState, pr, q1', q2']
  ·have q2' := eq_false q2
   by_cases q3 : m.view < t.view
   ·rw [if_pos (.inr (.inr (.inl q3))), if_pos (.inr (.inr (.inl q3)))]
    refine ⟨_, ?_, .inl ⟨rfl, rfl⟩⟩
    rw [runFn_succ]
    simp (maxSteps := 1000000) [T, xf_rejoin_step_newState, pr, q1', q2', q3]
   ·by_cases q4 : m.view = t.view ∧ t.status = 1 ∧ m.log.length ≤ t.log.length
    ·have a1 := eq_true q4.1
     have a2 := eq_true q4.2.1
     have a3 : (m.log.length : Int) ≤ t.log.length := by have := q4.2.2; omega
     have q3' : ¬ t.view < t.view := by omega
     rw [if_pos (.inr (.inr (.inr q4))), if_pos (.inr (.inr (.inr q4)))]
     refine ⟨_, ?_, .inl ⟨rfl, rfl⟩⟩
     rw [runFn_succ]
     simp (maxSteps := 1000000) [T, xf_rejoin_step_newState, pr, q1', q2', q3, a1, a2, a3, q4.2.2]
    ·have hnn : ¬ noNews c t m := by
      unfold noNews
      rintro (h | h | h | h)
      ·exact q1 h
      ·exact q2 h
      ·exact q3 h
      ·exact q4 h
     obtain ⟨H, h1, h2⟩ := e_rejoin_take (n := n) (d := d) c t m m.view (max t.commit m.commit) m.log hs hm.log (he hnn) hn
     have hmax : max t.commit m.commit = if t.commit < m.commit then m.commit else t.commit := by split <;> omega
     rw [if_neg hnn, if_neg hnn]
     refine ⟨H, ?_, Left.take h2⟩
     rw [hmax] at h1
     rw [runFn_succ]
     by_cases a1 : m.view = t.view
     ·have a1' := eq_true a1
      by_cases a2 : t.status = 1
      ·have a2' := eq_true a2
       have a3 : ¬ (m.log.length : Int) ≤ t.log.length := fun h => q4 ⟨a1, a2, by omega⟩
       have a4 : ¬ m.log.length ≤ t.log.length := fun h => q4 ⟨a1, a2, h⟩
       rcases h2 with ⟨rfl, e⟩ | ⟨z, x, e, rfl⟩ <;> simp (maxSteps := 1000000) [T, xf_rejoin_step_newState, pr, q1', q2', q3, a1', a2', a3, a4, h1]
      ·have a2' := eq_false a2
       rcases h2 with ⟨rfl, e⟩ | ⟨z, x, e, rfl⟩ <;> simp (maxSteps := 1000000) [T, xf_rejoin_step_newState, pr, q1', q2', q3, a1', a2', h1]
     ·have a1' := eq_false a1
      rcases h2 with ⟨rfl, e⟩ | ⟨z, x, e, rfl⟩ <;> simp (maxSteps := 1000000) [T, xf_rejoin_step_newState, pr, q1', q2', q3, a1', h1]
end Go.Ax
namespace Go.Ax
set_option linter.all false
variable {n d : Nat}
set_option maxRecDepth 10000
set_option maxHeartbeats 16000000
attribute [local simp] evalOp.eq_41
theorem e_run_bad (k : Int) (c : Cfg) (s : State) (m : Msg) (hs : Small2 s) (hm : SmallM m) (hE : kErr c s m k ≠ 0) (hn : 2097157 < n) :
  runFn T n (d + 10) 48 [.dat (di k), .dat (encCfg c), .dat (encS s), .dat (encM m)] [] = some (.tup [.dat (encS zeroS), .dat (encSds []), .dat (di (kErr c s m k))], []) := by
 have h1 := e_core_Check (n := n) (d := d + 4) c s hs.toSmall (by omega)
 have h2 := e_message_Check (n := n) (d := d + 6) c m (by have := hm.log; omega) (by omega)
 unfold kErr at hE ⊢
 rw [runFn_succ]
 by_cases q1 : stateErr c s = 0
 ·rw [q1] at h1
  simp only [q1, ne_eq, not_true_eq_false, if_false] at hE ⊢
  by_cases q2 : m.kind = k
  ·have q2' := eq_true q2
   simp only [q2, not_true_eq_false, if_false] at hE ⊢
   generalize msgErr c m = E at *
   simp (maxSteps := 1000000) [T, xf_rejoin_run, xf_rejoin_run_rest, xf_rejoin_run_rec, runGrd_eq, List.filter_cons, h1, h2, q2', hE, zeroS]
  ·have q2' := eq_false q2
   simp only [q2, not_false_eq_true, if_true] at hE ⊢
   simp (maxSteps := 1000000) [T, xf_rejoin_run, xf_rejoin_run_rest, xf_rejoin_run_rec, runGrd_eq, List.filter_cons, h1, q2', zeroS]
 ·simp only [q1, ne_eq, not_false_eq_true, if_true] at hE ⊢
  generalize stateErr c s = E at *
  simp (maxSteps := 1000000) [T, xf_rejoin_run, xf_rejoin_run_rest, xf_rejoin_run_rec, runGrd_eq, List.filter_cons, h1, q1, zeroS]
theorem e_run_not (k : Int) (c : Cfg) (s : State) (m : Msg) (hs : Small2 s) (hm : SmallM m) (hN : ∀ x ∈ s.vector, Nn x) (hE : kErr c s m k = 0) (hB : admB c s m = false) (hn : 2097157 < n) :
  runFn T n (d + 10) 48 [.dat (di k), .dat (encCfg c), .dat (encS s), .dat (encM m)] [] = some (.tup [.dat (encS (admS c s m)), .dat (encSds []), .dat (di 0)], []) := by
 have h1 := e_core_Check (n := n) (d := d + 4) c s hs.toSmall (by omega)
 have h2 := e_message_Check (n := n) (d := d + 6) c m (by have := hm.log; omega) (by omega)
 have h3 := e_core_Admit (n := n) (d := d + 3) c s m hs.toSmall (by have := hm.log; omega) hN (by omega)
 obtain ⟨q1, q2, q3⟩ := kErr_zero hE
 rw [q1] at h1
 rw [q3] at h2
 rw [adm_zero q1 q3, hB] at h3
 have q2' := eq_true q2
 generalize admS c s m = t at *
 rw [runFn_succ]
 simp (maxSteps := 1000000) [T, xf_rejoin_run, xf_rejoin_run_rest, xf_rejoin_run_rec, runGrd_eq, List.filter_cons, h1, h2, h3, q2']
theorem e_run_go (k : Int) (hd : Nat) (hk : (k = 9 ∧ hd = 89) ∨ (k = 10 ∧ hd = 90) ∨ (k = 11 ∧ hd = 91) ∨ (k = 12 ∧ hd = 92)) (c : Cfg) (s : State) (m : Msg) (t : State) (L : List Send) (hs : Small2 s) (hm : SmallM m) (hN : ∀ x ∈ s.vector, Nn x) (hE : kErr c s m k = 0) (hB : admB c s m = true)
  (hh : ∃ H, runFn T n (d + 9) hd [.ptr 0 0] [stepB c (admS c s m) nilSd m] = some (.tup [], H) ∧ Left c m H t L) (hn : 2097157 < n) :
  runFn T n (d + 10) 48 [.dat (di k), .dat (encCfg c), .dat (encS s), .dat (encM m)] [] = some (.tup [.dat (encS t), .dat (encSds L), .dat (di 0)], []) := by
 have h1 := e_core_Check (n := n) (d := d + 4) c s hs.toSmall (by omega)
 have h2 := e_message_Check (n := n) (d := d + 6) c m (by have := hm.log; omega) (by omega)
 have h3 := e_core_Admit (n := n) (d := d + 3) c s m hs.toSmall (by have := hm.log; omega) hN (by omega)
 obtain ⟨q1, q2, q3⟩ := kErr_zero hE
 rw [q1] at h1
 rw [q3] at h2
 rw [adm_zero q1 q3, hB] at h3
 have q2' := eq_true q2
 obtain ⟨H, hh, hL⟩ := hh
 generalize admS c s m = a at *
 rw [runFn_succ]
 rcases hL with ⟨rfl, rfl⟩ | ⟨x, rfl, rfl⟩ | ⟨p1, p2, p3, p4, p5, p6, ⟨rfl, rfl⟩ | ⟨z, x, rfl, rfl⟩⟩
 ·rcases hk with ⟨rfl, rfl⟩ | ⟨rfl, rfl⟩ | ⟨rfl, rfl⟩ | ⟨rfl, rfl⟩ <;>
   simp (maxSteps := 1000000) [T, xf_rejoin_run, xf_rejoin_run_rest, xf_rejoin_run_rec, runGrd_eq, List.filter_cons, h1, h2, h3, q2', hh]
 ·rcases hk with ⟨rfl, rfl⟩ | ⟨rfl, rfl⟩ | ⟨rfl, rfl⟩ | ⟨rfl, rfl⟩ <;>
   simp (maxSteps := 1000000) [T, xf_rejoin_run, xf_rejoin_run_rest, xf_rejoin_run_rec, runGrd_eq, List.filter_cons, h1, h2, h3, q2', hh]
 ·have e : encS t = .agg [di t.self, di 1, di t.view, di t.last, encLog t.log, di t.commit, encV t.vector, di 0, .sl 4 true [], .sl 3 true [], .sl 6 false [], .sl 6 false []] := by unfold encS cellsS; rw [p1, p2, p3, p4, p5, p6]; rfl
  rw [e]
  rcases hk with ⟨rfl, rfl⟩ | ⟨rfl, rfl⟩ | ⟨rfl, rfl⟩ | ⟨rfl, rfl⟩ <;>
   simp (maxSteps := 1000000) [T, xf_rejoin_run, xf_rejoin_run_rest, xf_rejoin_run_rec, runGrd_eq, List.filter_cons, h1, h2, h3, q2', hh]
 ·have e : encS t = .agg [di t.self, di 1, di t.view, di t.last, encLog t.log, di t.commit, encV t.vector, di 0, .sl 4 true [], .sl 3 true [], .sl 6 false [], .sl 6 false []] := by unfold encS cellsS; rw [p1, p2, p3, p4, p5, p6]; rfl
  rw [e]
  rcases hk with ⟨rfl, rfl⟩ | ⟨rfl, rfl⟩ | ⟨rfl, rfl⟩ | ⟨rfl, rfl⟩ <;>
   simp (maxSteps := 1000000) [T, xf_rejoin_run, xf_rejoin_run_rest, xf_rejoin_run_rec, runGrd_eq, List.filter_cons, h1, h2, h3, q2', hh]
end Go.Ax
namespace Go.Ax
set_option linter.all false
variable {n d : Nat}
set_option maxRecDepth 10000
set_option maxHeartbeats 16000000
theorem vec_at {s : State} {k : Int} (h : 0 ≤ k ∧ k < s.vector.length) : s.vector[k.toNat]? = some (drawAt s k) := by
 unfold drawAt
 rw [List.getD_eq_getElem?_getD, List.getElem?_eq_getElem (by omega)]
 rfl
theorem draw_iff (x y : Draw) : x = y ↔ x.hi = y.hi ∧ x.lo = y.lo := by cases x; cases y; simp
theorem putAns_small {t : State} {m : Msg} (hs : Small2 t) (hm : SmallM m) : (putAns t.answers (ansOf t m)).length ≤ t.answers.length + 1 ∧ ∀ x ∈ putAns t.answers (ansOf t m), x.log.length ≤ 1048576 := by
 refine ⟨putL_length _ _ _ _, fun x hx => ?_⟩
 rcases putL_mem _ _ _ _ _ hx with rfl | hx
 ·exact hm.log
 ·exact hs.alogs2 x hx
theorem e_step_response (c : Cfg) (t : State) (m : Msg) (hs : Small2 t) (ha : t.answers.length ≤ 1048576) (hm : SmallM m) (hself : 0 ≤ t.self ∧ t.self < t.vector.length) (hnode : 0 ≤ m.node ∧ m.node < t.vector.length) (hsort : t.answers.Pairwise (fun a b => a.node < b.node)) (hf : 1 ≤ c.f ∧ c.f ≤ 3)
  (hv : ¬ deaf t m → ∀ x ∈ (heardS t m).answers, 0 ≤ x.view ∧ x.view ≤ 4294967296) (hset : ¬ deaf t m → ∀ a, settle c.f (heardS t m).answers = some a → oneErr c (takeS (heardS t m) a.view a.log a.commit) (primaryOf c a.view) = 0) (hn : 1048577 < n) :
  ∃ H, runFn T n (d + 9) 90 [.ptr 0 0] [stepB c t nilSd m] = some (.tup [], H) ∧ Left c m H (rS10 c t m) (rL10 c t m) := by
 have v1 := vec_at hself
 have v2 := vec_at hnode
 unfold rS10 rL10
 by_cases q1 : t.status = 3
 ·have q1' := eq_true q1
  by_cases q2 : m.draw = drawAt t t.self
  ·have hnd : ¬ deaf t m := by unfold deaf; rintro (h | h); exact h q1; exact h q2
   rw [if_neg hnd, if_neg hnd]
   obtain ⟨p1, p2⟩ := putAns_small hs hm
   have hput := e_Put_answer (n := n) (d := d + 4) t.answers (ansOf t m) ha (fun x hx => by have := hs.alogs2 x hx; omega) (by have := hm.log; show m.log.length ≤ _; omega) hsort hn
   have hst := e_tally_Settle (n := n) (d := d + 6) c.f (heardS t m).answers (by show (putAns t.answers (ansOf t m)).length ≤ _; omega) (fun x hx => by have := p2 x hx; omega) hf (hv hnd) hn
   have hset := hset hnd
   have e1 : putL (fun x : Answer => x.node) (upv_answer (ansOf t m)) (ansOf t m) t.answers = putAns t.answers (ansOf t m) := rfl
   rw [e1] at hput
   have hh : (heardS t m).answers = putAns t.answers (ansOf t m) := rfl
   have k1 := eq_true ((draw_iff _ _).1 q2).1
   have k2 := eq_true ((draw_iff _ _).1 q2).2
   rw [hh] at hst
   have hsm : Small2 (heardS t m) := ⟨⟨hs.log, hs.vector, hs.acks, hs.marks, hs.ballots, by show (putAns t.answers (ansOf t m)).length ≤ _; omega, hs.blogs, fun x hx => by have := p2 x hx; omega⟩, hs.log2, hs.vector2, hs.blogs2, fun x hx => p2 x hx⟩
   cases hse : settle c.f (heardS t m).answers with
   | none =>
    rw [hh] at hse
    rw [hse] at hst
    refine ⟨[stepB c (heardS t m) nilSd m], ?_, .inl ⟨rfl, rfl⟩⟩
    simp only [heardS]
    simp only [ansOf] at hput hst ⊢
    generalize putAns t.answers ⟨m.node, drawAt t m.node, m.view, m.commit, m.log⟩ = PA at *
    rw [runFn_succ]
    simp (maxSteps := 1000000) [T, xf_rejoin_step_response, q1', hself.1, hnode.1, v1, v2, k1, k2, hput, hst]
   | some a =>
    have haL : a.log.length ≤ 1048576 := p2 a (by have := (settle_mem hse).1; exact this)
    obtain ⟨H, h1, h2⟩ := e_rejoin_take (n := n) (d := d) c (heardS t m) m a.view a.commit a.log hsm haL (hset a hse) hn
    rw [hh] at hse
    rw [hse] at hst
    refine ⟨H, ?_, Left.take h2⟩
    simp only [heardS] at h1
    simp only [ansOf] at hput hst h1
    generalize putAns t.answers ⟨m.node, drawAt t m.node, m.view, m.commit, m.log⟩ = PA at *
    rw [runFn_succ]
    rcases h2 with ⟨rfl, e⟩ | ⟨z, x, e, rfl⟩ <;> simp (maxSteps := 1000000) [T, xf_rejoin_step_response, q1', hself.1, hnode.1, v1, v2, k1, k2, hput, hst, h1]
  ·have hd : deaf t m := .inr q2
   rw [if_pos hd, if_pos hd]
   refine ⟨_, ?_, .inl ⟨rfl, rfl⟩⟩
   rw [draw_iff] at q2
   rw [runFn_succ]
   by_cases k1 : m.draw.hi = (drawAt t t.self).hi
   ·have k1' := eq_true k1
    have k2' : (m.draw.lo = (drawAt t t.self).lo) = False := eq_false (fun h => q2 ⟨k1, h⟩)
    simp (maxSteps := 1000000) [T, xf_rejoin_step_response, q1', hself.1, v1, k1', k2']
   ·have k1' := eq_false k1
    simp (maxSteps := 1000000) [T, xf_rejoin_step_response, q1', hself.1, v1, k1']
 ·have hd : deaf t m := .inl q1
  have q1' := eq_false q1
  rw [if_pos hd, if_pos hd]
  refine ⟨_, ?_, .inl ⟨rfl, rfl⟩⟩
  rw [runFn_succ]
  simp (maxSteps := 1000000) [T, xf_rejoin_step_response, q1', hself.1, v1]
end Go.Ax
namespace Go.Ax
set_option linter.all false
variable {n d : Nat}
set_option maxRecDepth 10000
set_option maxHeartbeats 16000000
def moreB (c : Cfg) (s : State) (m : Msg) : Bool := admB c s m && !decide (s.status = 3)
theorem e_ref10_Head (k : Int) (c : Cfg) (s : State) (m : Msg) (hs : Small s) (hm : m.log.length ≤ 1048577) (hn : 1999999 < n) :
  runFn T n (d + 9) 52 [.dat (encCfg c), .dat (encS s), .dat (encM m), .dat (di k)] [] =
   some (.tup [.dat (encS (if kErr c s m k = 0 then admS c s m else zeroS)), .dat (.bool (if kErr c s m k = 0 then moreB c s m else false)), .dat (di (kErr c s m k))], []) := by
 have h1 := e_ref09_Check (n := n) (d := d + 1) c s hs (by omega)
 have h2 := e_ref07_Check (n := n) (d := d + 3) c m hm (by omega)
 have h3 := e_ref09_Admit (n := n) (d := d) c s m hs hm hn
 unfold kErr moreB
 rw [runFn_succ]
 by_cases q1 : stateErr c s = 0
 ·rw [q1] at h1
  simp only [q1, ne_eq, not_true_eq_false, if_false]
  by_cases q2 : m.kind = k
  ·have q2' := eq_true q2
   simp only [q2, not_true_eq_false, if_false]
   by_cases q3 : msgErr c m = 0
   ·rw [q3] at h2
    simp only [q3, if_true]
    have e0 : admErr c s m = 0 := adm_zero q1 q3
    rw [e0] at h3
    generalize admS c s m = t at *
    by_cases q4 : s.status = 3
    ·have q4' := eq_true q4
     cases hB : admB c s m
     ·rw [hB] at h3
      simp (maxSteps := 1000000) [T, xf_ref10_Head, h1, h2, h3, q2', q4']
     ·rw [hB] at h3
      simp (maxSteps := 1000000) [T, xf_ref10_Head, h1, h2, h3, q2', q4']
    ·have q4' := eq_false q4
     cases hB : admB c s m
     ·rw [hB] at h3
      simp (maxSteps := 1000000) [T, xf_ref10_Head, h1, h2, h3, q2', q4']
     ·rw [hB] at h3
      simp (maxSteps := 1000000) [T, xf_ref10_Head, h1, h2, h3, q2', q4']
   ·simp only [q3, if_false]
    generalize msgErr c m = E at *
    simp (maxSteps := 1000000) [T, xf_ref10_Head, h1, h2, q2', q3, zeroS]
  ·have q2' := eq_false q2
   simp only [q2, not_false_eq_true, if_true]
   simp (maxSteps := 1000000) [T, xf_ref10_Head, h1, q2', zeroS]
 ·simp only [q1, ne_eq, not_false_eq_true, if_true, if_false]
  generalize stateErr c s = E at *
  simp (maxSteps := 1000000) [T, xf_ref10_Head, h1, q1, zeroS]
theorem e_ref10_Leads (c : Cfg) (s : State) (hc : cfgOk c) (hv : 0 ≤ s.view ∧ s.view ≤ 4294967296) : runFn T n (d + 1) 54 [.dat (encCfg c), .dat (encS s)] [] = some (.dat (.bool (decide (s.status = 1) && decide (primaryOf c s.view = s.self))), []) := by
 have w1 := wrap_small (x := 2 * c.f) (by unfold cfgOk at hc; omega)
 have w2 := wrap_small (x := 2 * c.f + 1) (by unfold cfgOk at hc; omega)
 have w3 : ¬ 2 * c.f + 1 = 0 := by unfold cfgOk at hc; omega
 have hp : primaryOf c s.view = s.view.tmod (2 * c.f + 1) := by unfold primaryOf; rw [if_pos ⟨hc, hv.1, hv.2⟩]
 have hq : decide (primaryOf c s.view = s.self) = decide (s.self = s.view.tmod (2 * c.f + 1)) := by
  rw [hp]
  by_cases h : s.self = s.view.tmod (2 * c.f + 1)
  ·rw [decide_eq_true h, decide_eq_true h.symm]
  ·rw [decide_eq_false h, decide_eq_false (fun e => h e.symm)]
 rw [hq, runFn_succ]
 by_cases h1 : s.status = 1
 ·have h1' := eq_true h1
  simp [T, xf_ref10_Leads, w1, w2, w3, h1']
 ·have h1' := eq_false h1
  simp [T, xf_ref10_Leads, w1, w2, w3, h1']
theorem e_ref12_normal (s : State) : runFn T n (d + 1) 53 [.dat (encS s)] [] = some (.dat (.bool (decide (s.status = 1))), []) := by
 rw [runFn_succ]
 simp [T, xf_ref12_normal]
theorem e_ref12_one (c : Cfg) (s : State) (to : Int) (m : Msg) (hs : Small2 s) (hm : SmallM m) (hn : 1048577 < n) : runFn T n (d + 9) 55 [.dat (encCfg c), .dat (encS s), .dat (di to), .dat (encM m)] [] = some (.dat (encSds [oneS c s to m]), []) := by
 have h := e_ref09_One (n := n) (d := d) c s to m hs hm hn
 rw [runFn_succ]
 simp [T, xf_ref12_one, h]
theorem take_small {s : State} {view commit : Int} {log : List Ent} (hs : Small2 s) (hl : log.length ≤ 1048576) : Small2 (takeS s view log commit) := by
 refine ⟨⟨?_, ?_, by simp [takeS], by simp [takeS], by simp [takeS], by simp [takeS], by simp [takeS], by simp [takeS]⟩, ?_, ?_, by simp [takeS], by simp [takeS]⟩
 ·simp only [takeS]; omega
 ·exact hs.vector
 ·exact hl
 ·exact hs.vector2
theorem e_ref12_taken (c : Cfg) (s : State) (view commit : Int) (log : List Ent) (hs : Small2 s) (hl : log.length ≤ 1048576) (hc : cfgOk c) (hv : 0 ≤ view ∧ view ≤ 4294967296) (hn : 1048577 < n) :
  runFn T n (d + 10) 61 [.dat (encCfg c), .dat (encS s), .dat (di view), .dat (encLog log), .dat (di commit)] [] = some (.tup [.dat (encS (takeS s view log commit)), .dat (encSds (takeL c s view log commit))], []) := by
 have h1 := e_ref12_one (n := n) (d := d) c (takeS s view log commit) (primaryOf c view) (pokM view log) (take_small hs hl) ⟨by simp [pokM, zeroM], by simp [pokM, zeroM]⟩ hn
 have c1 := e_plain_CopyEntries (n := n) (d := d + 8) log (by omega)
 have c2 := e_plain_CopyVector (n := n) (d := d + 8) s.vector hs.vector
 have w1 := wrap_small (x := 2 * c.f) (by unfold cfgOk at hc; omega)
 have w2 := wrap_small (x := 2 * c.f + 1) (by unfold cfgOk at hc; omega)
 have w3 : ¬ 2 * c.f + 1 = 0 := by unfold cfgOk at hc; omega
 have hp : primaryOf c view = view.tmod (2 * c.f + 1) := by unfold primaryOf; rw [if_pos ⟨hc, hv.1, hv.2⟩]
 have hmin : min commit (log.length : Int) = if (log.length : Int) < commit then (log.length : Int) else commit := by split <;> omega
 have hz : ByteArray.empty = ⟨#[]⟩ := rfl
 have hv0 : encV [] = .sl 2 true [] := rfl
 have hl0 : encLog [] = .sl 5 true [] := rfl
 have a1 : encAcks [] = .sl 4 true [] := rfl
 have a2 : encMarks [] = .sl 3 true [] := rfl
 have a3 : encBals [] = .sl 6 false [] := rfl
 have a4 : encAnss [] = .sl 6 false [] := rfl
 unfold takeL
 by_cases q : (takeS s view log commit).commit < log.length
 ·rw [if_pos q]
  have q2 : ((log.length : Int) = if (log.length : Int) < commit then (log.length : Int) else commit) = False := by
   simp only [takeS, hmin] at q
   exact eq_false (by omega)
  generalize oneS c (takeS s view log commit) (primaryOf c view) (pokM view log) = x at *
  unfold encM cellsM encS cellsS at h1
  simp only [takeS, pokM, zeroM, hmin, hz, hv0, hl0, a1, a2, a3, a4, hp] at h1 ⊢
  rw [runFn_succ]
  simp (maxSteps := 1000000) [T, xf_ref12_taken, c1, c2, w1, w2, w3, h1, q2]
 ·rw [if_neg q]
  have q2 : ((log.length : Int) = if (log.length : Int) < commit then (log.length : Int) else commit) = True := by
   simp only [takeS, hmin] at q
   exact eq_true (by split at * <;> omega)
  simp only [takeS, hmin]
  rw [runFn_succ]
  simp (maxSteps := 1000000) [T, xf_ref12_taken, c1, c2, w1, w2, w3, q2]
end Go.Ax
namespace Go.Ax
set_option linter.all false
variable {n d : Nat}
set_option maxRecDepth 10000
set_option maxHeartbeats 16000000
structure Adm (c : Cfg) (s : State) (m : Msg) (t : State) : Prop where
 ok : stateErr c t = 0
 me : msgErr c m = 0
 ne : m.node ≠ t.self
 nd : 0 ≤ m.node ∧ m.node < nodesOf c
 sf : 0 ≤ t.self ∧ t.self < nodesOf c
 vl : (t.vector.length : Int) = nodesOf c
 cf : cfgOk c
theorem adm_of {k : Int} (hk : 3 ≤ k ∧ k ≤ 12) {c : Cfg} {s : State} {m : Msg} (hE : kErr c s m k = 0) (hB : admB c s m = true) : Adm c s m (admS c s m) := by
 obtain ⟨q1, q2, q3⟩ := kErr_zero hE
 have ho := admS_ok q1 q3
 obtain ⟨hc, h1, h2, h3, _⟩ := head_of ho
 obtain ⟨_, g1, g2, _⟩ := msg_nums q3
 rw [← NN_of hc] at g2
 exact ⟨ho, q3, by rw [admS_self q1 q3]; exact admB_node hB (between_kind q2 hk), ⟨g1, g2⟩, h1, h3, hc⟩
theorem one_node {c : Cfg} {s : State} {m : Msg} {t : State} (a : Adm c s m t) : oneErr c t m.node = 0 := one_err a.ok ⟨a.nd.1, a.nd.2, a.ne⟩
theorem view_ok {c : Cfg} {m : Msg} (h : msgErr c m = 0) : 0 ≤ m.view ∧ m.view ≤ 4294967296 := by
 obtain ⟨_, _, _, g3, g4, _⟩ := msg_nums h
 exact ⟨g3, g4⟩
theorem news_ok {c : Cfg} {s : State} {m : Msg} {t : State} (a : Adm c s m t) (hk : m.kind = 12) (h : ¬ noNews c t m) : stateErr c (takeS t m.view m.log (max t.commit m.commit)) = 0 ∧ (0 ≤ primaryOf c m.view ∧ primaryOf c m.view < nodesOf c ∧ primaryOf c m.view ≠ t.self) := by
 obtain ⟨l1, l2, l3⟩ := msg_log2 a.me (.inr hk)
 have hv := view_ok a.me
 obtain ⟨p1, p2, _⟩ := primary_in (c := c) (v := m.view) a.cf hv
 exact ⟨take_ok a.ok hv l1 (by omega), p1, p2, fun e => h (.inr (.inl e))⟩
theorem resp_ok {c : Cfg} {s : State} {m : Msg} {t : State} (a : Adm c s m t) (hk : m.kind = 10) (h : ¬ deaf t m) : stateErr c (heardS t m) = 0 := by
 have hs : t.status = 3 := Classical.byContradiction fun e => h (.inl e)
 exact heard_ok a.ok a.me hk a.ne hs
theorem e_rejoin_run (k : Int) (hk : k = 9 ∨ k = 10 ∨ k = 11 ∨ k = 12) (c : Cfg) (s : State) (m : Msg) (hs : Small2 s) (hm : SmallM m) (hN : ∀ x ∈ s.vector, Nn x) (hn : 2097157 < n) :
  runFn T n (d + 10) 48 [.dat (di k), .dat (encCfg c), .dat (encS s), .dat (encM m)] [] = some (.tup [.dat (encS (rCallS k c s m)), .dat (encSds (rCallL k c s m)), .dat (di (kErr c s m k))], []) := by
 unfold rCallS rCallL
 by_cases hE : kErr c s m k = 0
 ·simp only [hE, ne_eq, not_true_eq_false, if_false]
  cases hB : admB c s m
  ·simp only [if_true]
   exact e_run_not (n := n) (d := d) k c s m hs hm hN hE hB hn
  ·simp only [Bool.true_eq_false, if_false]
   have a := adm_of (by omega) hE hB
   have h2 := hs.adm (kErr_zero hE).1 (kErr_zero hE).2.2
   have hkd := (kErr_zero hE).2.1
   have hn1 : 1048577 < n := by omega
   rcases hk with rfl | rfl | rfl | rfl
   ·exact e_run_go (n := n) (d := d) 9 _ (.inl ⟨rfl, rfl⟩) c s m _ _ hs hm hN hE hB (e_step_recovery (n := n) (d := d) c _ m h2 hm (one_node a) hn1) hn
   ·refine e_run_go (n := n) (d := d) 10 _ (.inr (.inl ⟨rfl, rfl⟩)) c s m _ _ hs hm hN hE hB (e_step_response (n := n) (d := d) c _ m h2 (by have := (nodes_short a.ok).2.2.2; omega) hm (by have := a.sf; have := a.vl; omega) (by have := a.nd; have := a.vl; omega) (sorted_of a.ok).2.2.2.1 (by have := a.cf; unfold cfgOk at this; omega)
     (fun hd x hx => ?_) (fun hd x hx => ?_) hn1) hn
    ·obtain ⟨v1, v2, _⟩ := answers_of (resp_ok a hkd hd) x hx
     exact ⟨v1, v2⟩
    ·obtain ⟨s1, s2, _⟩ := settle_ok (resp_ok a hkd hd) hx
     exact one_err s1 s2
   ·exact e_run_go (n := n) (d := d) 11 _ (.inr (.inr (.inl ⟨rfl, rfl⟩))) c s m _ _ hs hm hN hE hB (e_step_getState (n := n) (d := d) c _ m h2 hm (one_node a) hn1) hn
   ·exact e_run_go (n := n) (d := d) 12 _ (.inr (.inr (.inr ⟨rfl, rfl⟩))) c s m _ _ hs hm hN hE hB (e_step_newState (n := n) (d := d) c _ m h2 hm (fun h => let q := news_ok a hkd h; one_err q.1 q.2) hn1) hn
 ·rw [if_pos hE, if_pos hE]
  exact e_run_bad (n := n) (d := d) k c s m hs hm hE hn
theorem e_rejoin_Recovery (c : Cfg) (s : State) (m : Msg) (hs : Small2 s) (hm : SmallM m) (hN : ∀ x ∈ s.vector, Nn x) (hn : 2097157 < n) :
  runFn T n (d + 11) 17 [.dat (encCfg c), .dat (encS s), .dat (encM m)] [] = some (.tup [.dat (encS (rCallS 9 c s m)), .dat (encSds (rCallL 9 c s m)), .dat (di (kErr c s m 9))], []) := by
 have h := e_rejoin_run (n := n) (d := d) 9 (by simp) c s m hs hm hN hn
 rw [runFn_succ]
 generalize rCallS 9 c s m = X at *
 simp [T, xf_rejoin_Recovery, h]
theorem e_rejoin_Response (c : Cfg) (s : State) (m : Msg) (hs : Small2 s) (hm : SmallM m) (hN : ∀ x ∈ s.vector, Nn x) (hn : 2097157 < n) :
  runFn T n (d + 11) 22 [.dat (encCfg c), .dat (encS s), .dat (encM m)] [] = some (.tup [.dat (encS (rCallS 10 c s m)), .dat (encSds (rCallL 10 c s m)), .dat (di (kErr c s m 10))], []) := by
 have h := e_rejoin_run (n := n) (d := d) 10 (by simp) c s m hs hm hN hn
 rw [runFn_succ]
 generalize rCallS 10 c s m = X at *
 simp [T, xf_rejoin_Response, h]
theorem e_rejoin_GetState (c : Cfg) (s : State) (m : Msg) (hs : Small2 s) (hm : SmallM m) (hN : ∀ x ∈ s.vector, Nn x) (hn : 2097157 < n) :
  runFn T n (d + 11) 28 [.dat (encCfg c), .dat (encS s), .dat (encM m)] [] = some (.tup [.dat (encS (rCallS 11 c s m)), .dat (encSds (rCallL 11 c s m)), .dat (di (kErr c s m 11))], []) := by
 have h := e_rejoin_run (n := n) (d := d) 11 (by simp) c s m hs hm hN hn
 rw [runFn_succ]
 generalize rCallS 11 c s m = X at *
 simp [T, xf_rejoin_GetState, h]
theorem e_rejoin_NewState (c : Cfg) (s : State) (m : Msg) (hs : Small2 s) (hm : SmallM m) (hN : ∀ x ∈ s.vector, Nn x) (hn : 2097157 < n) :
  runFn T n (d + 11) 30 [.dat (encCfg c), .dat (encS s), .dat (encM m)] [] = some (.tup [.dat (encS (rCallS 12 c s m)), .dat (encSds (rCallL 12 c s m)), .dat (di (kErr c s m 12))], []) := by
 have h := e_rejoin_run (n := n) (d := d) 12 (by simp) c s m hs hm hN hn
 rw [runFn_succ]
 generalize rCallS 12 c s m = X at *
 simp [T, xf_rejoin_NewState, h]
def recM (s : State) : Msg := { zeroM with kind := 9, draw := drawAt s s.self }
def askL (c : Cfg) (s : State) : List Send := allR c s (recM s)
theorem e_rejoin_asking (c : Cfg) (s : State) (hs : Small2 s) (hself : 0 ≤ s.self ∧ s.self < s.vector.length) (hn : 1048577 < n) :
  runFn T n (d + 7) 44 [.dat (encCfg c), .dat (encS s)] [] = some (.dat (encSds (askL c s)), []) := by
 have v1 := vec_at hself
 have h := e_core_All (n := n) (d := d) c s (recM s) hs ⟨by simp [recM, zeroM], by simp [recM, zeroM]⟩ hn
 have hz : ByteArray.empty = ⟨#[]⟩ := rfl
 have hv0 : encV [] = .sl 2 true [] := rfl
 have hl0 : encLog [] = .sl 5 true [] := rfl
 have e : (if stateErr c s = 0 then allS c s (recM s) else []) = askL c s := rfl
 rw [e] at h
 unfold encM cellsM at h
 generalize askL c s = L at *
 simp only [recM, zeroM, hz, hv0, hl0] at h
 rw [runFn_succ]
 simp (maxSteps := 1000000) [T, xf_rejoin_asking, hself.1, v1, h]
end Go.Ax
