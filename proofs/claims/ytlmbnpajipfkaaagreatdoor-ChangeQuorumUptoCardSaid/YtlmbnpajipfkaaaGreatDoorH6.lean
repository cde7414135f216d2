/-
  A vote among others (mark), evaluated.
-/
import Derived.Test.YtlmbnpajipfkaaaGreatDoorPA
import Derived.Test.YtlmbnpajipfkaaaGreatDoorME
import Derived.Test.YtlmbnpajipfkaaaGreatDoorMF
import Derived.Test.YtlmbnpajipfkaaaGreatDoorED
namespace Go.Ax
set_option linter.all false
variable {n d : Nat}
set_option maxRecDepth 10000
set_option linter.unusedSimpArgs false
set_option maxHeartbeats 8000000
theorem e_mark_above (v x : Mark) : runFn T n (d + 2) 143 [.dat (encMark v), .dat (encMark x)] [] = some (.dat (.bool false), []) := by
 rw [runFn_succ]; simp [T, xf_tally_mark_above]
def abMark (v x : Mark) : Bool := false
abbrev bxv_mark (x : Mark) : Blk := .box [.dat (di x.node), .dat (du x.draw.hi), .dat (du x.draw.lo)]
def upv_mark (v x : Mark) : Bool := decide (0 < cmp v.draw x.draw) || decide (cmp v.draw x.draw = 0) && abMark v x
theorem p0_mark (l : List Mark) (v : Mark) (hl : l.length ≤ 1048577) (hn : 1048577 < n) :
  (∃ j, ∃ hj : j < l.length, l[j].node = v.node ∧ loopAt (XCode.run (runFn T n (d + 2)) n 0 xf_tally_box_mark_put_b0) (headOf 0 xf_tally_box_mark_put_k0) n ⟨[(2, .ptr 0 0), (3, .ptr 1 0), (5, .dat (di l.length)), (6, .dat (.bool false)), (19, .dat (encMarks l)), (20, .dat (di l.length)), (21, .dat (di 0))], [.box [.dat (encMarks l)], bxv_mark v]⟩ = some (.exit 0, ⟨[(2, .ptr 0 0), (3, .ptr 1 0), (5, .dat (di j)), (6, .dat (.bool true))], [.box [.dat (encMarks l)], bxv_mark v, bxv_mark l[j]]⟩)) ∨
  ((∀ x ∈ l, x.node ≠ v.node) ∧ loopAt (XCode.run (runFn T n (d + 2)) n 0 xf_tally_box_mark_put_b0) (headOf 0 xf_tally_box_mark_put_k0) n ⟨[(2, .ptr 0 0), (3, .ptr 1 0), (5, .dat (di l.length)), (6, .dat (.bool false)), (19, .dat (encMarks l)), (20, .dat (di l.length)), (21, .dat (di 0))], [.box [.dat (encMarks l)], bxv_mark v]⟩ = some (.exit 0, ⟨[(2, .ptr 0 0), (3, .ptr 1 0), (5, .dat (di l.length)), (6, .dat (.bool false))], [.box [.dat (encMarks l)], bxv_mark v]⟩)) := by
 have main := loop_until (body := XCode.run (runFn T n (d + 2)) n 0 xf_tally_box_mark_put_b0) (head := headOf 0 xf_tally_box_mark_put_k0) (fun i => ⟨[(2, .ptr 0 0), (3, .ptr 1 0), (5, .dat (di l.length)), (6, .dat (.bool false)), (19, .dat (encMarks l)), (20, .dat (di l.length)), (21, .dat (di i))], [.box [.dat (encMarks l)], bxv_mark v]⟩) l.length (.exit 0, ⟨[(2, .ptr 0 0), (3, .ptr 1 0), (5, .dat (di l.length)), (6, .dat (.bool false))], [.box [.dat (encMarks l)], bxv_mark v]⟩) (fun i => (l[i]?.map (·.node)) = some v.node)
  (fun i => (.exit 0, ⟨[(2, .ptr 0 0), (3, .ptr 1 0), (5, .dat (di i)), (6, .dat (.bool true))], [.box [.dat (encMarks l)], bxv_mark v, bxv_mark (l.getD i default)]⟩)) (fun i hi hs => nextK_some ?_) (fun i hi hs => ⟨?_, fun s h => by cases h⟩) ?_ (fun s h => by cases h) l.length n 0 (by omega) (by omega)
 ·rcases main with ⟨j, _, hj, hs, _, e⟩ | ⟨hs, e⟩
  ·refine .inl ⟨j, hj, by simpa [hj] using hs, ?_⟩
   have hg : l.getD j default = l[j] := by simp [List.getD, hj]
   rw [hg] at e
   exact e
  ·refine .inr ⟨fun x hx h => ?_, e⟩
   obtain ⟨j, hj, rfl⟩ := List.mem_iff_getElem.1 hx
   exact hs j (Nat.zero_le _) hj (by simp [hj, h])
 ·have hi' : (i : Int) < l.length := by omega
  have hw := wrap_i i (by omega)
  have e1 := e_mark_node (n := n) (d := d + 1) l[i]
  have e2 := e_mark_node (n := n) (d := d + 1) v
  have hs' : ¬ l[i].node = v.node := by simpa [hi] using hs
  simp [xf_tally_box_mark_put_b0, xf_tally_box_mark_put_k0, hi, hi', hw, e1, e2, hs']
 ·have hi' : (i : Int) < l.length := by omega
  have e1 := e_mark_node (n := n) (d := d + 1) l[i]
  have e2 := e_mark_node (n := n) (d := d + 1) v
  have hs' : l[i].node = v.node := by simpa [hi] using hs
  have hs'' := eq_true hs'
  simp [xf_tally_box_mark_put_b0, hi, hi', e1, e2, hs'']
 ·simp [xf_tally_box_mark_put_b0]
theorem p1_mark (l : List Mark) (v : Mark) (hl : l.length ≤ 1048577) (hn : 1048577 < n) : ∃ j H, j ≤ l.length ∧ (∀ q (hq : q < l.length), q < j → ¬ v.node < l[q].node) ∧ (∀ hq : j < l.length, v.node < l[j].node) ∧
  loopAt (XCode.run (runFn T n (d + 2)) n 0 xf_tally_box_mark_put_b1) (headOf 0 xf_tally_box_mark_put_k1) n ⟨[(2, .ptr 0 0), (3, .ptr 1 0), (5, .dat (di l.length)), (6, .dat (.bool false)), (38, .dat (encMarks l)), (39, .dat (di l.length)), (40, .dat (di 0))], [.box [.dat (encMarks l)], bxv_mark v]⟩ = some (.exit 2, ⟨[(2, .ptr 0 0), (3, .ptr 1 0), (5, .dat (di j)), (6, .dat (.bool false))], H⟩) ∧ (H = [.box [.dat (encMarks l)], bxv_mark v] ∨ ∃ x, H = [.box [.dat (encMarks l)], bxv_mark v, bxv_mark x]) := by
 have main := loop_until (body := XCode.run (runFn T n (d + 2)) n 0 xf_tally_box_mark_put_b1) (head := headOf 0 xf_tally_box_mark_put_k1) (fun i => ⟨[(2, .ptr 0 0), (3, .ptr 1 0), (5, .dat (di l.length)), (6, .dat (.bool false)), (38, .dat (encMarks l)), (39, .dat (di l.length)), (40, .dat (di i))], [.box [.dat (encMarks l)], bxv_mark v]⟩) l.length (.exit 2, ⟨[(2, .ptr 0 0), (3, .ptr 1 0), (5, .dat (di l.length)), (6, .dat (.bool false))], [.box [.dat (encMarks l)], bxv_mark v]⟩) (fun i => ∃ h : i < l.length, v.node < l[i].node)
  (fun i => (.exit 2, ⟨[(2, .ptr 0 0), (3, .ptr 1 0), (5, .dat (di i)), (6, .dat (.bool false))], [.box [.dat (encMarks l)], bxv_mark v, bxv_mark (l.getD i default)]⟩)) (fun i hi hs => nextK_some ?_) (fun i hi hs => ⟨?_, fun s h => by cases h⟩) ?_ (fun s h => by cases h) l.length n 0 (by omega) (by omega)
 ·rcases main with ⟨j, _, hj, ⟨_, hs⟩, hq, e⟩ | ⟨hs, e⟩
  ·exact ⟨j, _, by omega, fun q h1 h2 h3 => hq q (Nat.zero_le _) h2 ⟨h1, h3⟩, fun _ => hs, e, .inr ⟨_, rfl⟩⟩
  ·exact ⟨l.length, _, Nat.le_refl _, fun q h1 h2 h3 => hs q (Nat.zero_le _) h1 ⟨h1, h3⟩, fun h => absurd h (by omega), e, .inl rfl⟩
 ·have hi' : (i : Int) < l.length := by omega
  have hw := wrap_i i (by omega)
  have e1 := e_mark_node (n := n) (d := d + 1) l[i]
  have e2 := e_mark_node (n := n) (d := d + 1) v
  have hs' : ¬ v.node < l[i].node := fun h => hs ⟨hi, h⟩
  simp [xf_tally_box_mark_put_b1, xf_tally_box_mark_put_k1, hi, hi', hw, e1, e2, hs']
 ·have hi' : (i : Int) < l.length := by omega
  have e1 := e_mark_node (n := n) (d := d + 1) l[i]
  have e2 := e_mark_node (n := n) (d := d + 1) v
  obtain ⟨_, hs'⟩ := hs
  simp [xf_tally_box_mark_put_b1, hi, hi', e1, e2, hs']
 ·simp [xf_tally_box_mark_put_b1]
def S_p2_mark (l : List Mark) (v : Mark) (at_ : Int) (b : Bool) (out : List Mark) (i : Nat) : St := ⟨[(2, .ptr 0 0), (3, .ptr 1 0), (5, .dat (di at_)), (6, .dat (.bool b)), (11, .own 2 0 out.length), (55, .dat (encMarks l)), (56, .dat (di l.length)), (57, .dat (di i))], [.box [.dat (encMarks l)], bxv_mark v, .arr 166 3 true false (out.map encMark)]⟩
theorem p2s_mark (l : List Mark) (v : Mark) (hl : l.length ≤ 1048577) (j : Nat) (hj : j < l.length) (hn : 1048577 < n) :
  loopAt (XCode.run (runFn T n (d + 2)) n 0 xf_tally_box_mark_put_b2) (headOf 0 xf_tally_box_mark_put_k2) n (S_p2_mark l v j true [] 0) = some (.exit 4, ⟨[(2, .ptr 0 0), (3, .ptr 1 0), (5, .dat (di j)), (11, .own 2 0 l.length)], (S_p2_mark l v j true (l.set j (if upv_mark v l[j] then v else l[j])) 0).H⟩) := by
 have hlen : ∀ i, i ≤ l.length → ((l.set j (if upv_mark v l[j] then v else l[j])).take i).length = i := fun i hi => by simp; omega
 have main := loop_for (body := XCode.run (runFn T n (d + 2)) n 0 xf_tally_box_mark_put_b2) (head := headOf 0 xf_tally_box_mark_put_k2) (fun i => S_p2_mark l v j true ((l.set j (if upv_mark v l[j] then v else l[j])).take i) i) l.length (.exit 4, ⟨[(2, .ptr 0 0), (3, .ptr 1 0), (5, .dat (di j)), (11, .own 2 0 l.length)], (S_p2_mark l v j true (l.set j (if upv_mark v l[j] then v else l[j])) 0).H⟩) (fun i hi => nextK_some ?_) ?_ (fun s h => by simp [S_p2_mark] at h) n (by omega)
 ·rw [List.take_zero] at main; exact main
 ·have hi' : (i : Int) < l.length := by omega
  have hw := wrap_i i (by omega)
  have hL : i + 1 ≤ LIM := by simp only [LIM]; omega
  have hsn : (l.set j (if upv_mark v l[j] then v else l[j])).take (i + 1) = (l.set j (if upv_mark v l[j] then v else l[j])).take i ++ [(l.set j (if upv_mark v l[j] then v else l[j]))[i]'(by simp; omega)] := List.take_succ_eq_append_getElem (by simp; omega)
  rw [hsn]
  have hl0 := hlen i (by omega)
  have e3 := e_mark_fresh (n := n) (d := d + 1) l[i]
  have e4 := e_mark_fresh (n := n) (d := d + 1) v
  by_cases hij : i = j
  ·subst hij
   have e5 := e_mark_draw (n := n) (d := d + 1) l[i]
   have e6 := e_mark_draw (n := n) (d := d + 1) v
   have e7 := p43 (n := n) (d := d + 1) v.draw l[i].draw
   have e8 := e_mark_above (n := n) (d := d) v l[i]
   have hget : (l.set i (if upv_mark v l[i] then v else l[i]))[i]'(by simp; omega) = (if upv_mark v l[i] then v else l[i]) := by simp
   rw [hget]
   generalize (l.set i (if upv_mark v l[i] then v else l[i])).take i = out at hl0 ⊢
   unfold upv_mark
   by_cases c1 : 0 < cmp v.draw l[i].draw
   ·simp [xf_tally_box_mark_put_b2, xf_tally_box_mark_put_k2, S_p2_mark, hi, hi', hw, hL, hl0, e3, e4, e5, e6, e7, c1]
   ·by_cases c2 : cmp v.draw l[i].draw = 0
    ·have c2' := eq_true c2
     cases c3 : abMark v l[i]
     ·(try rw [c3] at e8)
      simp [xf_tally_box_mark_put_b2, xf_tally_box_mark_put_k2, S_p2_mark, hi, hi', hw, hL, hl0, e3, e4, e5, e6, e7, e8, c1, c2', c3]
     ·(try rw [c3] at e8)
      (try cases c3)
      try simp [xf_tally_box_mark_put_b2, xf_tally_box_mark_put_k2, S_p2_mark, hi, hi', hw, hL, hl0, e3, e4, e5, e6, e7, e8, c1, c2', c3]
    ·have c2' := eq_false c2
     simp [xf_tally_box_mark_put_b2, xf_tally_box_mark_put_k2, S_p2_mark, hi, hi', hw, hL, hl0, e3, e4, e5, e6, e7, c1, c2']
  ·have hget : (l.set j (if upv_mark v l[j] then v else l[j]))[i]'(by simp; omega) = l[i] := by rw [List.getElem_set_ne (by omega)]
   rw [hget]
   generalize (l.set j (if upv_mark v l[j] then v else l[j])).take i = out at hl0 ⊢
   have hij' := eq_false hij
   have hij2 : ((i : Int) = j) = False := eq_false (by omega)
   simp [xf_tally_box_mark_put_b2, xf_tally_box_mark_put_k2, S_p2_mark, hi, hi', hw, hL, hl0, e3, hij', hij2]
 ·have := hlen l.length (Nat.le_refl _)
  rw [List.take_of_length_le (by simp)]
  simp [xf_tally_box_mark_put_b2, S_p2_mark]
def outN_mark (l : List Mark) (v : Mark) (j i : Nat) : List Mark := if i ≤ j then l.take i else l.take j ++ v :: (l.take i).drop j
theorem p2n_mark (l : List Mark) (v : Mark) (hl : l.length ≤ 1048577) (j : Nat) (hj : j ≤ l.length) (hn : 1048577 < n) :
  loopAt (XCode.run (runFn T n (d + 2)) n 0 xf_tally_box_mark_put_b2) (headOf 0 xf_tally_box_mark_put_k2) n (S_p2_mark l v j false [] 0) = some (.exit 4, ⟨[(2, .ptr 0 0), (3, .ptr 1 0), (5, .dat (di j)), (11, .own 2 0 (outN_mark l v j l.length).length)], (S_p2_mark l v j false (outN_mark l v j l.length) 0).H⟩) := by
 have main := loop_for (body := XCode.run (runFn T n (d + 2)) n 0 xf_tally_box_mark_put_b2) (head := headOf 0 xf_tally_box_mark_put_k2) (fun i => S_p2_mark l v j false (outN_mark l v j i) i) l.length (.exit 4, ⟨[(2, .ptr 0 0), (3, .ptr 1 0), (5, .dat (di j)), (11, .own 2 0 (outN_mark l v j l.length).length)], (S_p2_mark l v j false (outN_mark l v j l.length) 0).H⟩) (fun i hi => nextK_some ?_) ?_ (fun s h => by simp [S_p2_mark] at h) n (by omega)
 ·have : outN_mark l v j 0 = [] := by simp [outN_mark]
  rw [this] at main; exact main
 ·have hi' : (i : Int) < l.length := by omega
  have hw := wrap_i i (by omega)
  have hle : (outN_mark l v j i).length ≤ i + 1 := by unfold outN_mark; split <;> simp <;> omega
  have e3 := e_mark_fresh (n := n) (d := d + 1) l[i]
  have e4 := e_mark_fresh (n := n) (d := d + 1) v
  have hL : (outN_mark l v j i).length + 1 ≤ LIM := by simp only [LIM]; omega
  have hL2 : (outN_mark l v j i).length + 1 + 1 ≤ LIM := by simp only [LIM]; omega
  by_cases hij : i = j
  ·have hsn : outN_mark l v j (i + 1) = outN_mark l v j i ++ [v] ++ [l[i]] := by
    subst hij
    unfold outN_mark
    rw [if_neg (by omega), if_pos (Nat.le_refl _), List.take_succ_eq_append_getElem hi, List.drop_append_of_le_length (by simp; omega), List.drop_eq_nil_of_le (by simp; omega)]
    simp only [List.nil_append, List.append_assoc, List.singleton_append]
   rw [hsn]
   generalize outN_mark l v j i = out at *
   have hij' := eq_true hij
   subst hij
   simp [xf_tally_box_mark_put_b2, xf_tally_box_mark_put_k2, S_p2_mark, hi, hi', hw, hL, hL2, e3, e4]
  ·have hsn : outN_mark l v j (i + 1) = outN_mark l v j i ++ [l[i]] := by
    by_cases h1 : i < j
    ·unfold outN_mark
     rw [if_pos (by omega), if_pos (by omega), List.take_succ_eq_append_getElem hi]
    ·unfold outN_mark
     rw [if_neg (by omega), if_neg (by omega), List.take_succ_eq_append_getElem hi, List.drop_append_of_le_length (by simp; omega)]
     simp only [List.append_assoc, List.cons_append]
   rw [hsn]
   generalize outN_mark l v j i = out at *
   have hij' := eq_false hij
   have hij2 : ((i : Int) = j) = False := eq_false (by omega)
   simp [xf_tally_box_mark_put_b2, xf_tally_box_mark_put_k2, S_p2_mark, hi, hi', hw, hL, e3, hij', hij2]
 ·simp [xf_tally_box_mark_put_b2, S_p2_mark]
theorem e_put_mark (l : List Mark) (v : Mark) (hl : l.length ≤ 1048576) (hs : l.Pairwise (fun a b => a.node < b.node)) (hn : 1048577 < n) :
  runFn T n (d + 3) 118 [.dat (.agg [encMarks l]), .dat (encMark v)] [] = some (.dat (encMarks (putL (·.node) (upv_mark v) v l)), []) := by
 rw [runFn_succ]
 rcases p0_mark (n := n) (d := d) l v (by omega) hn with ⟨j, hj, he, e0⟩ | ⟨hne, e0⟩
 ·have e2 := p2s_mark (n := n) (d := d) l v (by omega) j hj hn
  have hput := putL_same (fun x : Mark => x.node) (upv_mark v) v l j hj hs he
  have hset : l.set j (if upv_mark v l[j] then v else l[j]) = l.take j ++ (if upv_mark v l[j] then v else l[j]) :: l.drop (j + 1) := by rw [List.set_eq_take_append_cons_drop, if_pos hj]
  rw [← hset] at hput
  rw [hput]
  have hll : (l.set j (if upv_mark v l[j] then v else l[j])).length = l.length := by simp
  generalize l.set j (if upv_mark v l[j] then v else l[j]) = out at *
  have hjl : ¬ (j : Int) = l.length := by omega
  have htk : List.take l.length (List.map encMark out) = List.map encMark out := List.take_of_length_le (by simp [hll])
  simp [S_p2_mark, xf_tally_box_mark_put_k2] at e2
  simp [xf_tally_box_mark_put_k0] at e0
  simp [T, xf_tally_box_mark_put, xf_tally_box_mark_put_k0, xf_tally_box_mark_put_k1, xf_tally_box_mark_put_k2, e0, e2, hjl, htk, hll]
 ·obtain ⟨j, H, hj, h1, h2, e1, hH⟩ := p1_mark (n := n) (d := d) l v (by omega) hn
  have e2 := p2n_mark (n := n) (d := d) l v (by omega) j hj hn
  have hput := putL_at (fun x : Mark => x.node) (upv_mark v) v l j hj (fun q hq hqj => by
   have a := h1 q hq hqj
   have b := hne l[q] (List.getElem_mem hq)
   omega) h2
  have e4 := e_mark_fresh (n := n) (d := d + 1) v
  rw [hput]
  simp [S_p2_mark, xf_tally_box_mark_put_k2] at e2
  simp [xf_tally_box_mark_put_k0] at e0
  simp [xf_tally_box_mark_put_k1] at e1
  by_cases hjl : j = l.length
  ·have ho : outN_mark l v j l.length = l := by simp [outN_mark, hjl]
   rw [ho] at e2
   have ho2 : l.take j ++ v :: l.drop j = l ++ [v] := by simp [hjl]
   rw [ho2]
   subst hjl
   have hL : l.length + 1 ≤ LIM := by simp only [LIM]; omega
   rcases hH with rfl | ⟨x, rfl⟩ <;> simp [T, xf_tally_box_mark_put, xf_tally_box_mark_put_k0, xf_tally_box_mark_put_k1, xf_tally_box_mark_put_k2, e0, e1, e2, e4, hL] <;> exact take_snoc _ _ _
  ·have ho : outN_mark l v j l.length = l.take j ++ v :: l.drop j := by simp [outN_mark, show ¬ l.length ≤ j by omega]
   rw [ho] at e2
   have hjl' : ¬ (j : Int) = l.length := by omega
   generalize l.take j ++ v :: l.drop j = out at *
   rcases hH with rfl | ⟨x, rfl⟩ <;> simp [T, xf_tally_box_mark_put, xf_tally_box_mark_put_k0, xf_tally_box_mark_put_k1, xf_tally_box_mark_put_k2, e0, e1, e2, hjl']
theorem e_Put_mark (l : List Mark) (v : Mark) (hl : l.length ≤ 1048576) (hs : l.Pairwise (fun a b => a.node < b.node)) (hn : 1048577 < n) :
  runFn T n (d + 4) 108 [.dat (encMarks l), .dat (encMark v)] [] = some (.dat (encMarks (putL (·.node) (upv_mark v) v l)), []) := by
 have h1 := e_turned_Mark_mark (n := n) (d := d + 1) l (by omega) hn
 have h2 := e_put_mark (n := n) (d := d) l v hl hs hn
 have hlen := putL_length (fun x : Mark => x.node) (upv_mark v) v l
 have h3 := e_turned_mark_Mark (n := n) (d := d + 1) (putL (fun x : Mark => x.node) (upv_mark v) v l) (by omega) hn
 rw [runFn_succ]
 simp [T, xf_tally_PutMark, h1, h2, h3]
end Go.Ax
namespace Go.Ax
set_option linter.all false
variable {n d : Nat}
set_option maxRecDepth 10000
set_option linter.unusedSimpArgs false
set_option maxHeartbeats 16000000
theorem allR_small {c : Cfg} {s : State} {m : Msg} (hs : Small2 s) (hm : SmallM m) : (allR c s m).length ≤ 1048577 ∧ ∀ x ∈ allR c s m, SmallM x.msg := by
 unfold allR
 split
 ·exact allS_small hs hm
 ·simp
theorem dvc_small {s : State} (h : Small2 s) : SmallM (dvcM s) := ⟨h.log2, by simp [dvcM, zeroM]⟩
theorem svc_small (v : Int) : SmallM (svcM v) := ⟨by simp [svcM, zeroM], by simp [svcM, zeroM]⟩
theorem adm_err0 {c : Cfg} {s : State} {m : Msg} (h : stateErr c s = 0) : admErr c s m = msgErr c m := by unfold admErr; rw [if_neg (by simp [h])]
theorem e_handle6 (c : Cfg) (s : State) (m : Msg) (hs : Small2 s) (hm : SmallM m) (hN : ∀ x ∈ s.vector, Nn x) (hn : 2097157 < n) :
  runFn T n (d + 11) 21 [.dat (encCfg c), .dat (encS s), .dat (encM m), .dat (di 6)] [] = some (.tup [.dat (encS (callS 6 c s m)), .dat (encSds (callL 6 c s m)), .dat (di (kErr c s m 6))], []) := by
 have k1 := e_core_Check (n := n) (d := d + 5) c s hs.toSmall (by omega)
 have mc := e_message_Check (n := n) (d := d + 7) c m (by have := hm.log; omega) (by omega)
 have ad := e_core_Admit (n := n) (d := d + 4) c s m hs.toSmall (by have := hm.log; omega) hN (by omega)
 have U50 := fun k a H => runFn_succ (n := n) T k 24 a H
 have U56 := fun k a H => runFn_succ (n := n) T k 35 a H
 have U100 := fun k a H => runFn_succ (n := n) T k 66 a H
 have U152 := fun k a H => runFn_succ (n := n) T k 107 a H
 have U47 := fun k a H => runFn_succ (n := n) T k 27 a H
 have U79 := fun k a H => runFn_succ (n := n) T k 47 a H
 have U49 := fun k a H => runFn_succ (n := n) T k 23 a H
 have U51 := fun k a H => runFn_succ (n := n) T k 25 a H
 have U82 := fun k a H => runFn_succ (n := n) T k 42 a H
 have U83 := fun k a H => runFn_succ (n := n) T k 43 a H
 have hw0 : IntKind.wrap .i64 0 = 0 := by decide
 rw [runFn_succ]
 unfold callS callL kErr
 by_cases he : stateErr c s = 0
 ·rw [he] at k1
  rw [if_neg (show ¬ stateErr c s ≠ 0 by simp [he])]
  by_cases hk : m.kind = 6
  ·have hk' := eq_true hk
   rw [if_neg (show ¬ m.kind ≠ 6 by simp [hk])]
   by_cases hme : msgErr c m = 0
   ·rw [hme] at mc
    rw [adm_err0 he, hme] at ad
    rw [if_neg (show ¬ msgErr c m ≠ 0 by simp [hme]), if_neg (show ¬ msgErr c m ≠ 0 by simp [hme]), hme]
    have hok := admS_ok he hme
    have hsm := hs.adm he hme
    have hnod := nodes_ok hok
    obtain ⟨gc, gn1, gn2, gv1, gv2, _⟩ := msg_nums hme
    have hsort := (sorted_of hok).1
    generalize admS c s m = t at *
    generalize admB c s m = B at *
    obtain ⟨_, g1, g2, g3, _⟩ := hnod
    simp only [NN] at g1 g3 gn2
    cases B
    ·simp [T, xf_change_handle, k1, mc, ad, hk']
    ·rw [if_neg (by simp), if_neg (by simp)]
     unfold stepS stepL
     by_cases h3 : t.status = 3
     ·have h3' := eq_true h3
      rw [if_pos (.inl h3), if_pos (.inl h3)]
      simp [T, xf_change_handle, k1, mc, ad, hw0, hk', h3']
     ·have h3' := eq_false h3
      by_cases hst : stale t m
      ·rw [if_pos (.inr hst), if_pos (.inr hst)]
       by_cases v1 : m.view < t.view
       ·simp [T, xf_change_handle, xf_change_handlers, xf_change_start, xf_change_step_later, U56, U100, U152, k1, mc, ad, hw0, hk', h3', v1]
       ·have v2 : m.view = t.view ∧ t.status = 1 := by unfold stale at hst; rcases hst with h | h; exact absurd h v1; exact h
        have v2' := eq_true v2.1
        have v3' := eq_true v2.2
        simp [T, xf_change_handle, xf_change_handlers, xf_change_start, xf_change_step_later, U56, U100, U152, k1, mc, ad, hw0, hk', h3', v1, v2', v3']
      ·have hns : ¬ (t.status = 3 ∨ stale t m) := fun h => h.elim h3 hst
       rw [if_neg hns, if_neg hns, if_pos rfl, if_pos rfl]
       have v1 : ¬ m.view < t.view := fun h => hst (.inl h)
       have hvn : m.node.toNat < t.vector.length := by omega
       have hvn' : m.node < t.vector.length := by omega
       have hd : drawAt t m.node = t.vector[m.node.toNat] := by simp [drawAt, List.getD, hvn]
       have hup : ∀ v, upv_mark v = upMark v := fun v => by funext x; simp [upv_mark, abMark, upMark]
       by_cases v2 : m.view = t.view
       ·have v3 : ¬ t.status = 1 := fun h => hst (.inr ⟨v2, h⟩)
        have v2' := eq_true v2
        have v3' := eq_false v3
        have v4 : ¬ t.view < m.view := by omega
        have hf : firstS2 c t m = t := by unfold firstS2; rw [if_neg v4]
        have hfl : firstL c t m = [] := by unfold firstL; rw [if_neg v4]
        have hp := e_Put_mark (n := n) (d := d + 5) t.marks ⟨m.node, t.vector[m.node.toNat]⟩ (by have := (nodes_short hok).1; omega) hsort (by omega)
        have hmk : (⟨m.node, t.vector[m.node.toNat]⟩ : Mark) = markOf t m.node := by unfold markOf; rw [hd]
        have hpe : putL (fun x : Mark => x.node) (upv_mark ⟨m.node, t.vector[m.node.toNat]⟩) ⟨m.node, t.vector[m.node.toNat]⟩ t.marks = putMark t.marks (markOf t m.node) := by rw [hmk, hup]; rfl
        rw [hpe] at hp
        have hSS : startS c t m = { t with marks := putMark t.marks (markOf t m.node) } := by unfold startS; rw [hf]
        have hSL : startL c t m = if ¬ c.f ≤ t.marks.length ∧ c.f ≤ (putMark t.marks (markOf t m.node)).length then ballL c { t with marks := putMark t.marks (markOf t m.node) } else [] := by
         unfold startL
         rw [hfl, hf, hSS]
         simp only [List.nil_append]
        rw [hSL, hSS]
        have hlen : (putMark t.marks (markOf t m.node)).length ≤ t.marks.length + 1 := putL_length _ _ _ _
        generalize hL : putMark t.marks (markOf t m.node) = L at *
        have hsv : Small2 { t with marks := L } := ⟨⟨hsm.log, hsm.vector, hsm.acks, by have := (nodes_short hok).1; simp only; omega, hsm.ballots, hsm.answers, hsm.blogs, hsm.alogs⟩, hsm.log2, hsm.vector2, hsm.blogs2, hsm.alogs2⟩
        have pr := e_core_Primary (n := n) (d := d + 4) c t.view
        have o1 := e_core_One (n := n) (d := d + 1) c { t with marks := L } (primaryOf c t.view) (dvcM { t with marks := L }) hsv (dvc_small hsv) (by omega)
        have hz : (⟨#[]⟩ : ByteArray) = ByteArray.empty := rfl
        by_cases b1 : c.f ≤ t.marks.length
        ·rw [if_neg (by simp [b1])]
         simp [T, xf_change_handle, xf_change_handlers, xf_change_start, xf_change_step_later, xf_tally_Marked, U50, U56, U100, U152, k1, mc, ad, hw0, hk', h3', v1, v2', v3', v4, hvn, hvn', gn1, hp, b1]
        ·by_cases b2 : c.f ≤ L.length
         ·rw [if_pos ⟨b1, b2⟩]
          unfold ballL
          by_cases hpp : primaryOf c t.view = t.self
          ·rw [if_pos hpp]
           rw [hpp] at pr
           simp [T, xf_change_handle, xf_change_handlers, xf_change_start, xf_change_step_later, xf_change_frame_ballot, xf_change_frame_primary, xf_tally_Marked, U50, U51, U82, U56, U100, U152, k1, mc, ad, hw0, hk', h3', v1, v2', v3', v4, hvn, hvn', gn1, hp, b1, b2, pr]
          ·rw [if_neg hpp]
           generalize oneS c { t with marks := L } (primaryOf c t.view) (dvcM { t with marks := L }) = X at *
           have hpp' := eq_false hpp
           simp [dvcM, zeroM, encM, cellsM, encLog, encV] at o1
           simp [T, xf_change_handle, xf_change_handlers, xf_change_start, xf_change_step_later, xf_change_frame_ballot, xf_change_frame_primary, xf_change_frame_one, xf_tally_Marked, U50, U51, U82, U83, U56, U100, U152, k1, mc, ad, hw0, hk', h3', v1, v2', v3', v4, hvn, hvn', gn1, hp, b1, b2, pr, hpp', o1, hz]
         ·rw [if_neg (by simp [b2])]
          simp [T, xf_change_handle, xf_change_handlers, xf_change_start, xf_change_step_later, xf_tally_Marked, U50, U56, U100, U152, k1, mc, ad, hw0, hk', h3', v1, v2', v3', v4, hvn, hvn', gn1, hp, b1, b2]
       ·have v2' := eq_false v2
        have v4 : t.view < m.view := by omega
        have hf : firstS2 c t m = goS t m.view := by unfold firstS2; rw [if_pos v4]
        have hfl : firstL c t m = goL c t m.view := by unfold firstL; rw [if_pos v4]
        have hp := e_Put_mark (n := n) (d := d + 5) [] ⟨m.node, t.vector[m.node.toNat]⟩ (by simp) (by simp) (by omega)
        have hmk : (⟨m.node, t.vector[m.node.toNat]⟩ : Mark) = markOf t m.node := by unfold markOf; rw [hd]
        simp [putL, encMarks] at hp
        have hSS : startS c t m = { goS t m.view with marks := [⟨m.node, t.vector[m.node.toNat]⟩] } := by
         unfold startS
         rw [hf, ← hmk]
         simp [putMark, goS, putL]
        have hSL : startL c t m = goL c t m.view ++ (if ¬ c.f ≤ 0 ∧ c.f ≤ 1 then ballL c { goS t m.view with marks := [⟨m.node, t.vector[m.node.toNat]⟩] } else []) := by
         unfold startL
         rw [hfl, hf, hSS]
         rfl
        rw [hSL, hSS]
        have hgs := go_small2 hsm m.view
        have a1 := e_core_All (n := n) (d := d) c (goS t m.view) (svcM m.view) hgs (svc_small _) (by omega)
        have hgl := (allR_small (c := c) hgs (svc_small m.view)).1
        have haL : (if stateErr c (goS t m.view) = 0 then allS c (goS t m.view) (svcM m.view) else []) = goL c t m.view := rfl
        rw [haL] at a1
        rw [show allR c (goS t m.view) (svcM m.view) = goL c t m.view from rfl] at hgl
        generalize goL c t m.view = L at *
        generalize stateErr c (goS t m.view) = SE at *
        have hL1 : L.length ≤ LIM := by simp only [LIM]; omega
        have hL2 : L.length + 1 ≤ LIM := by simp only [LIM]; omega
        have hz : (⟨#[]⟩ : ByteArray) = ByteArray.empty := rfl
        have b1 : ¬ c.f ≤ 0 := by unfold cfgOk at gc; omega
        have hsv : Small2 { goS t m.view with marks := [⟨m.node, t.vector[m.node.toNat]⟩] } := ⟨⟨hgs.log, hgs.vector, hgs.acks, by simp, hgs.ballots, hgs.answers, hgs.blogs, hgs.alogs⟩, hgs.log2, hgs.vector2, hgs.blogs2, hgs.alogs2⟩
        have pr := e_core_Primary (n := n) (d := d + 4) c m.view
        have o1 := e_core_One (n := n) (d := d + 1) c { goS t m.view with marks := [⟨m.node, t.vector[m.node.toNat]⟩] } (primaryOf c m.view) (dvcM { goS t m.view with marks := [⟨m.node, t.vector[m.node.toNat]⟩] }) hsv (dvc_small hsv) (by omega)
        simp [goS, svcM, zeroM, encM, cellsM, encLog, encV, encS, cellsS, encAcks, encMarks, encBals, encAnss] at a1
        by_cases b2 : c.f ≤ 1
        ·rw [if_pos ⟨b1, b2⟩]
         have hbl : ballL c { goS t m.view with marks := [⟨m.node, t.vector[m.node.toNat]⟩] } = if primaryOf c m.view = t.self then [] else [oneS c { goS t m.view with marks := [⟨m.node, t.vector[m.node.toNat]⟩] } (primaryOf c m.view) (dvcM { goS t m.view with marks := [⟨m.node, t.vector[m.node.toNat]⟩] })] := rfl
         rw [hbl]
         by_cases hpp : primaryOf c m.view = t.self
         ·rw [if_pos hpp]
          rw [hpp] at pr
          simp (maxSteps := 1000000) [T, xf_change_handle, xf_change_handlers, xf_change_start, xf_change_step_later, xf_change_frame_goes, xf_change_frame_clear, xf_change_frame_all, xf_change_frame_ballot, xf_change_frame_primary, xf_tally_Marked, U47, U49, U79, U50, U51, U82, U56, U100, U152, k1, mc, ad, hw0, hk', h3', v1, v2', v4, hvn, hvn', gn1, hp, b1, b2, pr, a1, hL1, hz, goS]
         ·rw [if_neg hpp]
          generalize oneS c { goS t m.view with marks := [⟨m.node, t.vector[m.node.toNat]⟩] } (primaryOf c m.view) (dvcM { goS t m.view with marks := [⟨m.node, t.vector[m.node.toNat]⟩] }) = X at *
          have hpp' := eq_false hpp
          simp [goS, dvcM, zeroM, encM, cellsM, encLog, encV, encS, cellsS, encAcks, encMarks, encBals, encAnss] at o1
          simp (maxSteps := 1000000) [T, xf_change_handle, xf_change_handlers, xf_change_start, xf_change_step_later, xf_change_frame_goes, xf_change_frame_clear, xf_change_frame_all, xf_change_frame_ballot, xf_change_frame_primary, xf_change_frame_one, xf_tally_Marked, U47, U49, U79, U50, U51, U82, U83, U56, U100, U152, k1, mc, ad, hw0, hk', h3', v1, v2', v4, hvn, hvn', gn1, hp, b1, b2, pr, hpp', o1, a1, hL1, hL2, hz, goS]
          exact take_snoc _ _ _
        ·rw [if_neg (by simp [b2])]
         simp (maxSteps := 1000000) [T, xf_change_handle, xf_change_handlers, xf_change_start, xf_change_step_later, xf_change_frame_goes, xf_change_frame_clear, xf_change_frame_all, xf_tally_Marked, U47, U49, U79, U50, U56, U100, U152, k1, mc, ad, hw0, hk', h3', v1, v2', v4, hvn, hvn', gn1, hp, b1, b2, a1, hL1, hz, goS]
   ·rw [if_pos hme, if_pos hme]
    generalize msgErr c m = ME at *
    simp [T, xf_change_handle, k1, mc, hk', hme, zeroS]
  ·have hk' := eq_false hk
   rw [if_pos hk, if_pos (by simp), if_pos (by simp)]
   simp [T, xf_change_handle, k1, hk', zeroS]
 ·rw [if_pos he, if_pos he, if_pos he]
  generalize stateErr c s = SE at *
  simp [T, xf_change_handle, k1, he, zeroS]
end Go.Ax
