/-
  Layer 12, the document's: an answer among others; what goes out at a start.
-/
import Derived.Test.YtfoglingdnhjpaaGreatDoorRZ
import Derived.Test.YtfoglingdnhjpaaGreatDoorSS
import Derived.Test.YtfoglingdnhjpaaGreatDoorQG
import Derived.Test.YtfoglingdnhjpaaGreatDoorED
import Derived.Test.YtfoglingdnhjpaaGreatDoorEF
namespace Go.Ax
set_option linter.all false
variable {n d : Nat}
set_option maxRecDepth 10000
set_option maxHeartbeats 16000000
abbrev ansB (fz : Bool) (l : List Answer) : Blk := .arr 100 6 false fz (l.map encAns)
def setA (l : List Answer) (v : Answer) (j : Nat) : List Answer := l.set j (if upv_answer v (l.getD j default) then v else l.getD j default)
theorem l_pa0 (l : List Answer) (v : Answer) (hl : l.length ≤ 1048576) (hg : ∀ x ∈ l, x.log.length ≤ 1048577) (hgv : v.log.length ≤ 1048577) (hn : 1048579 < n) :
  (∃ j, ∃ hj : j < l.length, l[j].node = v.node ∧ loopAt (XCode.run (runFn T n (d + 3)) n 0 xf_ref08_PutAnswer_b0) (headOf 0 xf_ref08_PutAnswer_k0) n ⟨[(0, .dat (encAnss l)), (3, .ptr 0 0), (5, .own 1 0 0), (6, .dat (di 0))], [bxv_answer v, ansB false []]⟩ = some (.ret, ⟨[(4, .dat (encAnss (setA l v j)))], [bxv_answer v, .dead, ansB true (setA l v j)]⟩)) ∨
  ((∀ x ∈ l, x.node ≠ v.node) ∧ loopAt (XCode.run (runFn T n (d + 3)) n 0 xf_ref08_PutAnswer_b0) (headOf 0 xf_ref08_PutAnswer_k0) n ⟨[(0, .dat (encAnss l)), (3, .ptr 0 0), (5, .own 1 0 0), (6, .dat (di 0))], [bxv_answer v, ansB false []]⟩ = some (.exit 0, ⟨[(0, .dat (encAnss l)), (3, .ptr 0 0), (5, .own 1 0 0)], [bxv_answer v, ansB false []]⟩)) := by
 have main := loop_until (body := XCode.run (runFn T n (d + 3)) n 0 xf_ref08_PutAnswer_b0) (head := headOf 0 xf_ref08_PutAnswer_k0) (fun i => ⟨[(0, .dat (encAnss l)), (3, .ptr 0 0), (5, .own 1 0 0), (6, .dat (di i))], [bxv_answer v, ansB false []]⟩) l.length (.exit 0, ⟨[(0, .dat (encAnss l)), (3, .ptr 0 0), (5, .own 1 0 0)], [bxv_answer v, ansB false []]⟩)
  (fun i => (l[i]?.map (·.node)) = some v.node) (fun j => (.ret, ⟨[(4, .dat (encAnss (setA l v j)))], [bxv_answer v, .dead, ansB true (setA l v j)]⟩)) (fun i hi hs => nextK_some ?_) (fun i hi hs => ⟨?_, fun s h => by cases h⟩) ?_ (fun s h => by cases h) l.length n 0 (by omega) (by omega)
 ·rcases main with ⟨j, _, hj, hs, _, e⟩ | ⟨hs, e⟩
  ·exact .inl ⟨j, hj, by simpa [hj] using hs, e⟩
  ·refine .inr ⟨fun x hx h => ?_, e⟩
   obtain ⟨j, hj, rfl⟩ := List.mem_iff_getElem.1 hx
   exact hs j (Nat.zero_le _) hj (by simp [hj, h])
 ·have hi' : (i : Int) < l.length := by omega
  have hw := wrap_i i (by omega)
  have hs' : (l[i].node = v.node) = False := eq_false (by simpa [hi] using hs)
  simp [xf_ref08_PutAnswer_b0, xf_ref08_PutAnswer_k0, hi, hi', hw, hs']
 ·have hi' : (i : Int) < l.length := by omega
  have hL : l.length ≤ LIM := by simp only [LIM]; omega
  have hs' : (l[i].node = v.node) = True := eq_true (by simpa [hi] using hs)
  have hget : l.getD i default = l[i] := by simp [List.getD, hi]
  have mo := e_ref08_more (n := n) (d := d + 2) v.view v.log.length v.commit l[i].view l[i].log.length l[i].commit
  have hm : (if v.view ≠ l[i].view then decide (l[i].view < v.view) else if (v.log.length : Int) ≠ l[i].log.length then decide ((l[i].log.length : Int) < v.log.length) else decide (l[i].commit < v.commit)) = aboveAns v l[i] := by
   unfold aboveAns longerB
   split
   ·rfl
   ·by_cases q : v.log.length = l[i].log.length
    ·have q2 : (v.log.length : Int) = l[i].log.length := by omega
     rw [if_neg (by simp [q2])]
     simp [q]
    ·have q2 : ¬ (v.log.length : Int) = l[i].log.length := by omega
     rw [if_pos q2, decide_eq_false q, Bool.false_and, Bool.or_false]
     by_cases q3 : l[i].log.length < v.log.length
     ·rw [decide_eq_true q3, decide_eq_true (by omega)]
     ·rw [decide_eq_false q3, decide_eq_false (by omega)]
  rw [hm] at mo
  have tk := e_ref08_takes (n := n) (d := d) v.draw l[i].draw (aboveAns v l[i])
  have hu : (decide (0 < cmp v.draw l[i].draw) || decide (cmp v.draw l[i].draw = 0) && aboveAns v l[i]) = upv_answer v l[i] := rfl
  rw [hu] at tk
  have hsa : setA l v i = l.set i (if upv_answer v l[i] then v else l[i]) := by unfold setA; rw [hget]
  have hgs : ∀ x ∈ setA l v i, x.log.length ≤ 1048577 := by
   intro x hx
   rw [hsa] at hx
   rcases List.mem_or_eq_of_mem_set hx with h | h
   ·exact hg x h
   ·rw [h]; split
    ·exact hgv
    ·exact hg _ (List.getElem_mem hi)
  have cp := e_ref08_CopyAnswers (n := n) (d := d + 1) (setA l v i) (by rw [hsa, List.length_set]; omega) hgs hn
  rw [hsa] at cp ⊢
  cases hq : upv_answer v l[i]
  ·rw [hq] at tk cp
   simp only [Bool.false_eq_true, if_false, List.set_getElem_self] at cp ⊢
   simp (maxSteps := 1000000) [xf_ref08_PutAnswer_b0, hi, hi', hs', hL, mo, tk, cp]
  ·rw [hq] at tk cp
   simp only [if_true] at cp ⊢
   have hset : (l.map encAns).set i (encAns v) = (l.set i v).map encAns := by simp
   unfold encAnss at cp
   rw [List.map_set] at cp
   have htk : List.take l.length ((l.map encAns).set i (encAns v)) = (l.map encAns).set i (encAns v) := List.take_of_length_le (by simp)
   simp (maxSteps := 1000000) [xf_ref08_PutAnswer_b0, hi, hi', hs', hL, mo, tk, cp, htk]
 ·simp [xf_ref08_PutAnswer_b0]
def S_pa1 (l : List Answer) (v : Answer) (i : Nat) (a : List Answer × Bool) : St := ⟨[(0, .dat (encAnss l)), (3, .ptr 0 0), (5, .own 1 0 a.1.length), (7, .dat (.bool a.2)), (8, .dat (di i))], [bxv_answer v, ansB false a.1]⟩
theorem l_pa1 (cf : CallF) (l : List Answer) (v : Answer) (hl : l.length ≤ 1048576) (hne : ∀ x ∈ l, x.node ≠ v.node) (hn : 1048579 < n) :
  loopAt (XCode.run cf n 0 xf_ref08_PutAnswer_b1) (headOf 0 xf_ref08_PutAnswer_k1) n (S_pa1 l v 0 ([], false)) =
  some (.exit 2, ⟨[(3, .ptr 0 0), (5, .own 1 0 (l.foldl (putF (·.node) (upv_answer v) v) ([], false)).1.length), (7, .dat (.bool (l.foldl (putF (·.node) (upv_answer v) v) ([], false)).2))], [bxv_answer v, ansB false (l.foldl (putF (·.node) (upv_answer v) v) ([], false)).1]⟩) := by
 refine loop_fold (S_pa1 l v) (fun i a => a.1.length ≤ 2 * i) l (putF (·.node) (upv_answer v) v) (fun a => (.exit 2, ⟨[(3, .ptr 0 0), (5, .own 1 0 a.1.length), (7, .dat (.bool a.2))], [bxv_answer v, ansB false a.1]⟩)) ([], false) (by simp) (fun i a hi hI => ?_) (fun a _ => ?_) (fun a s h => by cases h) n (by omega)
 ·have hi' : (i : Int) < l.length := by omega
  have hw := wrap_i i (by omega)
  obtain ⟨A, b⟩ := a
  have hI : A.length ≤ 2 * i := hI
  have hL1 : A.length + 1 ≤ LIM := by simp only [LIM]; omega
  have hL2 : A.length + 1 + 1 ≤ LIM := by simp only [LIM]; omega
  have q1 := hne _ (List.getElem_mem hi)
  unfold putF
  rw [if_neg q1]
  by_cases q2 : v.node < l[i].node
  ·cases b
   ·simp only [q2, and_self, if_true]
    refine ⟨by simp; omega, nextK_some ?_⟩
    simp [xf_ref08_PutAnswer_b1, xf_ref08_PutAnswer_k1, S_pa1, hi, hi', hw, q2, hL1, hL2]
   ·simp only [q2, true_and, Bool.true_eq_false, if_false]
    refine ⟨by simp; omega, nextK_some ?_⟩
    simp [xf_ref08_PutAnswer_b1, xf_ref08_PutAnswer_k1, S_pa1, hi, hi', hw, q2, hL1]
  ·simp only [q2, false_and, if_false]
   refine ⟨by simp; omega, nextK_some ?_⟩
   cases b <;> simp [xf_ref08_PutAnswer_b1, xf_ref08_PutAnswer_k1, S_pa1, hi, hi', hw, q2, hL1]
 ·simp [xf_ref08_PutAnswer_b1, S_pa1]
theorem e_ref08_PutAnswer (l : List Answer) (v : Answer) (hl : l.length ≤ 1048576) (hg : ∀ x ∈ l, x.log.length ≤ 1048577) (hgv : v.log.length ≤ 1048577) (hs : l.Pairwise (fun a b => a.node < b.node)) (hn : 1048579 < n) :
  runFn T n (d + 4) 59 [.dat (encAnss l), .dat (encAns v)] [] = some (.dat (encAnss (putL (·.node) (upv_answer v) v l)), []) := by
 rw [runFn_succ]
 rcases l_pa0 (n := n) (d := d) l v hl hg hgv hn with ⟨j, hj, he, e0⟩ | ⟨hne, e0⟩
 ·have hput := putL_same (fun x : Answer => x.node) (upv_answer v) v l j hj hs he
  have hget : l.getD j default = l[j] := by simp [List.getD, hj]
  have hset : setA l v j = l.take j ++ (if upv_answer v l[j] then v else l[j]) :: l.drop (j + 1) := by unfold setA; rw [hget, List.set_eq_take_append_cons_drop, if_pos hj]
  rw [← hset] at hput
  rw [hput]
  generalize setA l v j = out at *
  simp [xf_ref08_PutAnswer_k0, ansB] at e0
  simp [T, xf_ref08_PutAnswer, xf_ref08_PutAnswer_k0, e0]
 ·have e1 := l_pa1 (n := n) (runFn T n (d + 3)) l v hl hne hn
  have hf := putF_fold (fun x : Answer => x.node) (upv_answer v) v l [] hs
  have hlen : (putL (fun x : Answer => x.node) (upv_answer v) v l).length ≤ l.length + 1 := putL_length _ _ _ _
  have cp := e_ref08_CopyAnswers (n := n) (d := d + 1) (putL (fun x : Answer => x.node) (upv_answer v) v l) (by omega) (fun x hx => by
   rcases putL_mem _ _ _ _ _ hx with rfl | hx
   ·exact hgv
   ·exact hg x hx) hn
  simp only [List.nil_append] at hf
  generalize putL (fun x : Answer => x.node) (upv_answer v) v l = P at *
  generalize l.foldl (putF (fun x : Answer => x.node) (upv_answer v) v) ([], false) = a at *
  obtain ⟨A, b⟩ := a
  simp [S_pa1, xf_ref08_PutAnswer_k1, ansB] at e1
  simp [xf_ref08_PutAnswer_k0, ansB] at e0
  cases b
  ·simp only [Bool.false_eq_true, if_false] at hf
   subst hf
   have hL1 : A.length + 1 ≤ LIM := by simp at hlen; simp only [LIM]; omega
   have htk : (A.map encAns ++ [encAns v]).take (A.length + 1) = A.map encAns ++ [encAns v] := List.take_of_length_le (by simp)
   unfold encAnss at cp
   simp only [List.map_append, List.map_cons, List.map_nil] at cp
   simp (maxSteps := 1000000) [T, xf_ref08_PutAnswer, xf_ref08_PutAnswer_k0, xf_ref08_PutAnswer_k1, e0, e1, hL1, htk, cp]
  ·simp only [if_true, List.append_nil] at hf
   subst hf
   simp (maxSteps := 1000000) [T, xf_ref08_PutAnswer, xf_ref08_PutAnswer_k0, xf_ref08_PutAnswer_k1, e0, e1, cp]
end Go.Ax
namespace Go.Ax
set_option linter.all false
variable {n d : Nat}
set_option maxRecDepth 10000
set_option maxHeartbeats 16000000
theorem adm_status {c : Cfg} {s : State} {m : Msg} (h : stateErr c s = 0) (hm : msgErr c m = 0) : (admS c s m).status = s.status := by
 rcases admS_cases h hm with ⟨e, _⟩ | ⟨e, _⟩ <;> rw [e]
 rfl
theorem call_ways {k : Int} (hk : k = 9 ∨ k = 10 ∨ k = 11 ∨ k = 12) (c : Cfg) (s : State) (m : Msg) :
  (kErr c s m k ≠ 0 ∧ rCallS k c s m = zeroS ∧ rCallL k c s m = []) ∨
  (kErr c s m k = 0 ∧ admB c s m = false ∧ rCallS k c s m = admS c s m ∧ rCallL k c s m = []) ∨
  (kErr c s m k = 0 ∧ admB c s m = true ∧ Adm c s m (admS c s m) ∧ m.kind = k ∧ (admS c s m).status = s.status ∧ rCallS k c s m = rStepS k c (admS c s m) m ∧ rCallL k c s m = rStepL k c (admS c s m) m) := by
 unfold rCallS rCallL
 by_cases hE : kErr c s m k = 0
 ·right
  simp only [hE, ne_eq, not_true_eq_false, if_false]
  cases hB : admB c s m
  ·left; simp
  ·right
   simp only [Bool.true_eq_false, if_false]
   exact ⟨trivial, trivial, adm_of (by omega) hE hB, (kErr_zero hE).2.1, adm_status (kErr_zero hE).1 (kErr_zero hE).2.2, trivial, trivial⟩
 ·left
  exact ⟨hE, by rw [if_pos hE], by rw [if_pos hE]⟩
end Go.Ax
namespace Go.Ax
set_option linter.all false
variable {n d : Nat}
set_option maxRecDepth 10000
set_option maxHeartbeats 16000000
theorem e_ref12_Response (c : Cfg) (s : State) (m : Msg) (hs : Small2 s) (hm : SmallM m) (hn : 2097157 < n) :
  runFn T n (d + 11) 23 [.dat (encCfg c), .dat (encS s), .dat (encM m)] [] = some (.tup [.dat (encS (rCallS 10 c s m)), .dat (encSds (rCallL 10 c s m)), .dat (di (kErr c s m 10))], []) := by
 have k1' := e_ref09_Check (n := n) (d := d + 3) c s hs.toSmall (by omega)
 have k2' := e_ref07_Check (n := n) (d := d + 5) c m (by have := hm.log; omega) (by omega)
 have k3' := e_ref09_Admit (n := n) (d := d + 2) c s m hs.toSmall (by have := hm.log; omega) (by omega)
 rcases call_ways (k := 10) (by simp) c s m with ⟨k1, k2, k3⟩ | ⟨k1, k2, k3, k4⟩ | ⟨k1, k2, a, kk, ks, k3, k4⟩
 ·rw [k2, k3]
  unfold kErr at k1 ⊢
  unfold zeroS
  rw [runFn_succ]
  by_cases q1 : stateErr c s = 0
  ·rw [q1] at k1'
   simp only [q1, ne_eq, not_true_eq_false, if_false] at k1 ⊢
   by_cases q2 : m.kind = 10
   ·have q2' := eq_true q2
    simp only [q2, not_true_eq_false, if_false] at k1 ⊢
    generalize msgErr c m = E at *
    simp (maxSteps := 1000000) [T, xf_ref12_Response, k1', k2', q2', k1]
   ·have q2' := eq_false q2
    simp only [q2, not_false_eq_true, if_true] at k1 ⊢
    simp (maxSteps := 1000000) [T, xf_ref12_Response, k1', q2']
  ·simp only [q1, ne_eq, not_false_eq_true, if_true] at k1 ⊢
   generalize stateErr c s = E at *
   simp (maxSteps := 1000000) [T, xf_ref12_Response, k1', q1]
 ·obtain ⟨z1, z2, z3⟩ := kErr_zero k1
  rw [k3, k4, k1]
  rw [z1] at k1'
  rw [z3] at k2'
  rw [adm_zero z1 z3, k2] at k3'
  have z2' := eq_true z2
  generalize admS c s m = t at *
  rw [runFn_succ]
  simp (maxSteps := 1000000) [T, xf_ref12_Response, k1', k2', k3', z2']
 ·obtain ⟨z1, z2, z3⟩ := kErr_zero k1
  have hsm := hs.adm z1 z3
  rw [k3, k4, k1]
  rw [z1] at k1'
  rw [z3] at k2'
  rw [adm_zero z1 z3, k2] at k3'
  have z2' := eq_true z2
  generalize admS c s m = t at *
  have hself : 0 ≤ t.self ∧ t.self < t.vector.length := by have := a.sf; have := a.vl; omega
  have hnode : 0 ≤ m.node ∧ m.node < t.vector.length := by have := a.nd; have := a.vl; omega
  have v1 := vec_at hself
  have v2 := vec_at hnode
  show runFn T n (d + 11) 23 [.dat (encCfg c), .dat (encS s), .dat (encM m)] [] = some (.tup [.dat (encS (rS10 c t m)), .dat (encSds (rL10 c t m)), .dat (di 0)], [])
  unfold rS10 rL10
  by_cases q1 : t.status = 3
  ·have q1' := eq_true q1
   by_cases q2 : m.draw = drawAt t t.self
   ·have hnd : ¬ deaf t m := by unfold deaf; rintro (h | h); exact h q1; exact h q2
    rw [if_neg hnd, if_neg hnd]
    have hok := resp_ok a kk hnd
    obtain ⟨p1, p2⟩ := putAns_small hsm hm
    have hshort := (nodes_short a.ok).2.2.2
    have hput := e_ref08_PutAnswer (n := n) (d := d + 6) t.answers (ansOf t m) (by omega) (fun x hx => by have := hsm.alogs2 x hx; omega) (by have := hm.log; show m.log.length ≤ _; omega) (sorted_of a.ok).2.2.2.1 (by omega)
    have hf : 1 ≤ c.f ∧ c.f ≤ 3 := by have := a.cf; unfold cfgOk at this; omega
    have hst := e_ref08_Settle (n := n) (d := d + 8) c.f (heardS t m).answers (by show (putAns t.answers (ansOf t m)).length ≤ _; omega) (fun x hx => by have := p2 x hx; omega) hf (fun x hx => by obtain ⟨v1, v2, _⟩ := answers_of hok x hx; exact ⟨v1, v2⟩) (by omega)
    have e1 : putL (fun x : Answer => x.node) (upv_answer (ansOf t m)) (ansOf t m) t.answers = putAns t.answers (ansOf t m) := rfl
    rw [e1] at hput
    have hh : (heardS t m).answers = putAns t.answers (ansOf t m) := rfl
    have j1 := eq_true ((draw_iff _ _).1 q2).1
    have j2 := eq_true ((draw_iff _ _).1 q2).2
    rw [hh] at hst
    have hsm2 : Small2 (heardS t m) := ⟨⟨hsm.log, hsm.vector, hsm.acks, hsm.marks, hsm.ballots, by show (putAns t.answers (ansOf t m)).length ≤ _; omega, hsm.blogs, fun x hx => by have := p2 x hx; omega⟩, hsm.log2, hsm.vector2, hsm.blogs2, fun x hx => p2 x hx⟩
    cases hse : settle c.f (heardS t m).answers with
    | none =>
     rw [hh] at hse
     rw [hse] at hst
     simp only [heardS]
     simp only [ansOf] at hput hst ⊢
     generalize putAns t.answers ⟨m.node, drawAt t m.node, m.view, m.commit, m.log⟩ = PA at *
     rw [runFn_succ]
     simp (maxSteps := 1000000) [T, xf_ref12_Response, k1', k2', k3', z2', q1', hself.1, hnode.1, v1, v2, j1, j2, hput, hst]
    | some b =>
     have haL : b.log.length ≤ 1048576 := p2 b (by have := (settle_mem hse).1; exact this)
     obtain ⟨b1, b2, _⟩ := answers_of hok b (settle_mem hse).1
     have tk := e_ref12_taken (n := n) (d := d) c (heardS t m) b.view b.commit b.log hsm2 haL a.cf ⟨b1, b2⟩ (by omega)
     rw [hh] at hse
     rw [hse] at hst
     show runFn T n (d + 11) 23 [.dat (encCfg c), .dat (encS s), .dat (encM m)] [] = some (.tup [.dat (encS (takeS (heardS t m) b.view b.log b.commit)), .dat (encSds (takeL c (heardS t m) b.view b.log b.commit)), .dat (di 0)], [])
     generalize takeS (heardS t m) b.view b.log b.commit = X at *
     generalize takeL c (heardS t m) b.view b.log b.commit = L at *
     simp only [heardS] at tk
     simp only [ansOf] at hput hst tk
     generalize putAns t.answers ⟨m.node, drawAt t m.node, m.view, m.commit, m.log⟩ = PA at *
     rw [runFn_succ]
     simp (maxSteps := 1000000) [T, xf_ref12_Response, k1', k2', k3', z2', q1', hself.1, hnode.1, v1, v2, j1, j2, hput, hst, tk]
   ·have hd : deaf t m := .inr q2
    rw [if_pos hd, if_pos hd]
    rw [draw_iff] at q2
    rw [runFn_succ]
    by_cases j1 : m.draw.hi = (drawAt t t.self).hi
    ·have j1' := eq_true j1
     have j2' : (m.draw.lo = (drawAt t t.self).lo) = False := eq_false (fun h => q2 ⟨j1, h⟩)
     simp (maxSteps := 1000000) [T, xf_ref12_Response, k1', k2', k3', z2', q1', hself.1, v1, j1', j2']
    ·have j1' := eq_false j1
     simp (maxSteps := 1000000) [T, xf_ref12_Response, k1', k2', k3', z2', q1', hself.1, v1, j1']
  ·have hd : deaf t m := .inl q1
   have q1' := eq_false q1
   rw [if_pos hd, if_pos hd]
   rw [runFn_succ]
   simp (maxSteps := 1000000) [T, xf_ref12_Response, k1', k2', k3', z2', q1']
end Go.Ax
namespace Go.Ax
set_option linter.all false
variable {n d : Nat}
set_option maxRecDepth 10000
set_option maxHeartbeats 8000000
theorem one1_small {c : Cfg} {s : State} {to : Int} {m : Msg} (hs : Small2 s) (hm : SmallM m) : SmallL [oneS c s to m] := ⟨by simp, fun x hx => by rw [List.mem_singleton.1 hx]; exact oneS_small hs hm⟩
theorem rr_small {c : Cfg} {s : State} {m : Msg} (hs : Small2 s) : SmallM (rrM c s m) := by
 refine ⟨?_, by simp [rrM, zeroM]⟩
 unfold rrM
 simp only
 split
 ·exact hs.log2
 ·simp
theorem ns_small {s : State} (hs : Small2 s) : SmallM (nsM s) := ⟨hs.log2, by simp [nsM, zeroM]⟩
theorem takeL_small {c : Cfg} {s : State} {view commit : Int} {log : List Ent} (hs : Small2 s) (hl : log.length ≤ 1048576) : SmallL (takeL c s view log commit) := by
 unfold takeL
 split
 ·exact one1_small (take_small hs hl) ⟨by simp [pokM, zeroM], by simp [pokM, zeroM]⟩
 ·exact SmallL.nil
theorem heard_small {c : Cfg} {s t : State} {m : Msg} (hs : Small2 t) (hm : SmallM m) (a : Adm c s m t) : Small2 (heardS t m) := by
 have h1 := putAns_small (t := t) (m := m) hs hm
 have h2 := (nodes_short a.ok).2.2.2
 exact ⟨⟨hs.log, hs.vector, hs.acks, hs.marks, hs.ballots, by unfold heardS; simp only; omega, hs.blogs, fun b hb => by have := h1.2 b hb; omega⟩, hs.log2, hs.vector2, hs.blogs2, h1.2⟩
theorem r10_small {c : Cfg} {s t : State} {m : Msg} (hs : Small2 t) (hm : SmallM m) (a : Adm c s m t) : Small2 (rS10 c t m) ∧ SmallL (rL10 c t m) := by
 have hh := heard_small hs hm a
 unfold rS10 rL10
 split
 ·exact ⟨hs, SmallL.nil⟩
 ·cases hx : settle c.f (heardS t m).answers with
  | none => exact ⟨hh, SmallL.nil⟩
  | some x =>
   have hl := hh.alogs2 x (settle_mem hx).1
   exact ⟨take_small hh hl, takeL_small hh hl⟩
theorem r12_small {c : Cfg} {t : State} {m : Msg} (hs : Small2 t) (hm : SmallM m) : Small2 (rS12 c t m) ∧ SmallL (rL12 c t m) := by
 unfold rS12 rL12
 split
 ·exact ⟨hs, SmallL.nil⟩
 ·exact ⟨take_small hs hm.log, takeL_small hs hm.log⟩
theorem r9_small {c : Cfg} {t : State} {m : Msg} (hs : Small2 t) : SmallL (rL9 c t m) := by
 unfold rL9
 split
 ·exact one1_small hs (rr_small hs)
 ·exact SmallL.nil
theorem r11_small {c : Cfg} {t : State} {m : Msg} (hs : Small2 t) : SmallL (rL11 c t m) := by
 unfold rL11
 split
 ·exact one1_small hs (ns_small hs)
 ·exact SmallL.nil
theorem rCall_small {k : Int} (hk : k = 9 ∨ k = 10 ∨ k = 11 ∨ k = 12) {c : Cfg} {s : State} {m : Msg} (hs : Small2 s) (hm : SmallM m) : Small2 (rCallS k c s m) ∧ SmallL (rCallL k c s m) := by
 rcases call_ways hk c s m with ⟨_, e1, e2⟩ | ⟨q, _, e1, e2⟩ | ⟨q, _, a, _, _, e1, e2⟩
 ·rw [e1, e2]; exact ⟨zeroS_small2, SmallL.nil⟩
 ·rw [e1, e2]; exact ⟨hs.adm (kErr_zero q).1 (kErr_zero q).2.2, SmallL.nil⟩
 ·have h2 := hs.adm (kErr_zero q).1 (kErr_zero q).2.2
  rw [e1, e2]
  rcases hk with rfl | rfl | rfl | rfl
  ·exact ⟨h2, r9_small h2⟩
  ·exact r10_small h2 hm a
  ·exact ⟨h2, r11_small h2⟩
  ·exact r12_small h2 hm
theorem e_same12 (S : State) (L : List Send) (e : Int) (hS : Small S) (hL : SmallL L) (hn : 1048577 < n) : runFn T n (d + 4) 15 [.dat (encS S), .dat (encSds L), .dat (di e), .dat (encS S), .dat (encSds L), .dat (di e)] [] = some (.dat (.bool true), []) := by
 have h2 := e_plain_SameState (n := n) (d := d) S hS hn
 have h3 := e_plain_SameSends (n := n) (d := d) L (by have := hL.1; omega) hL.2 hn
 rw [runFn_succ]
 simp [T, xf_law12_same, h2, h3]
theorem works12 : runFn T 2097158 14 16 [] [] = some (.dat (.bool true), []) := by kernel_rfl
end Go.Ax
namespace Go.Ax
set_option linter.all false
variable {n d : Nat}
set_option maxRecDepth 10000
set_option maxHeartbeats 8000000
theorem law_RejoinResponses (c : Cfg) (s : State) (m : Msg) (hs : Small2 s) (hm : SmallM m) (hN : ∀ x ∈ s.vector, Nn x) (hn : 2097157 < n) (hal : runFn T n (d + 14) 16 [] [] = some (.dat (.bool true), [])) :
  ∃ H, runFn T n (d + 15) 5 [.dat (encCfg c), .dat (encS s), .dat (encM m)] [] = some (.dat (.bool true), H) := by
 have g := e_Given_State (n := n) (d := d + 11) s hs (by omega)
 have hgl : (gsE1 s s.answers).length ≤ 6000000 ∧ 0 < (gsE1 s s.answers).length := by
  have hb := hs.ballots
  have ha := hs.answers
  constructor
  ·simp [gsE1]; omega
  ·simp [gsE1]
 have g2 := e_Given_Msg (n := n) (d := d + 11) m hm [rD s.vector] (gsE1 s s.answers) [encS s] (by simp) (by simp) hgl.1 hgl.2 (by simp)
 have o1 := e_rejoin_Response (n := n) (d := d + 3) c s m hs hm hN hn
 have o2 := e_ref12_Response (n := n) (d := d + 3) c s m hs hm hn
 obtain ⟨sm1, sm2⟩ := rCall_small (k := 10) (by omega) (c := c) (m := m) hs hm
 have s1 := e_same12 (n := n) (d := d + 10) (rCallS 10 c s m) (rCallL 10 c s m) (kErr c s m 10) sm1.toSmall sm2 (by omega)
 have hin := e_Intact2 (n := n) (d := d + 10) s m hs hm hn
 unfold givAV givH at g
 simp only [List.length_cons, List.length_nil, Nat.zero_add] at g2
 generalize rCallS 10 c s m = X at o1 o2 s1
 generalize rCallL 10 c s m = L at o1 o2 s1
 generalize kErr c s m 10 = K at o1 o2 s1
 rw [runFn_succ]
 simp [T, xf_law12_RejoinResponses, g, g2, o1, o2, s1, hin, hal]
end Go.Ax
