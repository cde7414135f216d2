/-
  ChangeChoice, evaluated.
-/
import Derived.Test.YtfahaejohbmbpaaGreatDoorCN
namespace Go.Ax
set_option linter.all false
variable {n d : Nat}
set_option maxRecDepth 10000
set_option linter.unusedSimpArgs false
set_option maxHeartbeats 8000000
abbrev arrBl (A : List Ballot) : Blk := .arr 55 6 false false (A.map encBal)
def S_c0 (c : Cfg) (s : State) (m : Msg) (X : State) (L : List Send) (A : List Ballot) (i : Nat) (a : Int × Int) : St := ⟨[(3, .ptr 0 0), (4, .ptr 1 0), (5, .ptr 2 0), (7, .ptr 3 0), (8, .dat (encSds L)), (11, .own 4 0 A.length), (12, .dat (di a.1)), (13, .dat (di a.2)), (14, .dat (di i))], [boxC c, boxS s, boxMsg m, boxS X, arrBl A]⟩
theorem l_c0 (cf : CallF) (c : Cfg) (s : State) (m : Msg) (X : State) (L : List Send) (A : List Ballot) (hl : A.length ≤ 1048579) (hn : 1048580 < n) : loopAt (XCode.run cf n 0 xf_law11_ChangeChoice_b0) (headOf 0 xf_law11_ChangeChoice_k0) n (S_c0 c s m X L A 0 (-1, -1)) =
  some (.exit 0, ⟨[(3, .ptr 0 0), (4, .ptr 1 0), (5, .ptr 2 0), (7, .ptr 3 0), (8, .dat (encSds L)), (11, .own 4 0 A.length), (12, .dat (di (A.foldl g_key (-1, -1)).1)), (13, .dat (di (A.foldl g_key (-1, -1)).2))], [boxC c, boxS s, boxMsg m, boxS X, arrBl A]⟩) := by
 refine loop_fold (S_c0 c s m X L A) (fun _ _ => True) A g_key (fun a => (.exit 0, ⟨[(3, .ptr 0 0), (4, .ptr 1 0), (5, .ptr 2 0), (7, .ptr 3 0), (8, .dat (encSds L)), (11, .own 4 0 A.length), (12, .dat (di a.1)), (13, .dat (di a.2))], [boxC c, boxS s, boxMsg m, boxS X, arrBl A]⟩)) (-1, -1) trivial (fun i a hi _ => ⟨trivial, nextK_some ?_⟩) (fun a _ => ?_) (fun a s h => by cases h) n (by omega)
 ·have hi' : (i : Int) < A.length := by omega
  have hw := wrap_i i (by omega)
  obtain ⟨p, q⟩ := a
  unfold g_key
  by_cases h1 : p < A[i].last
  ·simp [xf_law11_ChangeChoice_b0, xf_law11_ChangeChoice_k0, S_c0, hi, hi', hw, h1]
  ·by_cases h2 : A[i].last = p
   ·have h2' := eq_true h2
    by_cases h3 : q < A[i].log.length
    ·simp [xf_law11_ChangeChoice_b0, xf_law11_ChangeChoice_k0, S_c0, hi, hi', hw, h1, h2', h3]
    ·simp [xf_law11_ChangeChoice_b0, xf_law11_ChangeChoice_k0, S_c0, hi, hi', hw, h1, h2', h3]
   ·have h2' := eq_false h2
    simp [xf_law11_ChangeChoice_b0, xf_law11_ChangeChoice_k0, S_c0, hi, hi', hw, h1, h2']
 ·simp [xf_law11_ChangeChoice_b0, S_c0]
def g_fd (la : Int) (lg : List Ent) (b : Bool) (x : Ballot) : Bool := b || (decide (x.last = la) && decide (x.log = lg))
theorem fd_true {la : Int} {lg : List Ent} : ∀ (l : List Ballot) (b : Bool), (b = true ∨ ∃ x ∈ l, x.last = la ∧ x.log = lg) → l.foldl (g_fd la lg) b = true
 | [], b, h => by
  rcases h with h | ⟨x, hx, _⟩
  ·exact h
  ·cases hx
 | y :: r, b, h => by
  rw [List.foldl_cons]
  refine fd_true r _ ?_
  unfold g_fd
  rcases h with h | ⟨x, hx, h1, h2⟩
  ·left; rw [h]; rfl
  ·rcases List.mem_cons.1 hx with rfl | hx
   ·left; simp [h1, h2]
   ·right; exact ⟨x, hx, h1, h2⟩
def S_c1 (c : Cfg) (s : State) (m : Msg) (X : State) (L : List Send) (A : List Ballot) (la lo : Int) (i : Nat) (b : Bool) : St := ⟨[(3, .ptr 0 0), (4, .ptr 1 0), (5, .ptr 2 0), (7, .ptr 3 0), (8, .dat (encSds L)), (11, .own 4 0 A.length), (12, .dat (di la)), (13, .dat (di lo)), (15, .dat (.bool b)), (16, .dat (di i))], [boxC c, boxS s, boxMsg m, boxS X, arrBl A]⟩
theorem l_c1 (c : Cfg) (s : State) (m : Msg) (X : State) (L : List Send) (A : List Ballot) (la lo : Int) (hl : A.length ≤ 1048579) (hA : ∀ x ∈ A, x.log.length ≤ 1048577) (hn : 1048580 < n) : loopAt (XCode.run (runFn T n (d + 14)) n 0 xf_law11_ChangeChoice_b1) (headOf 0 xf_law11_ChangeChoice_k1) n (S_c1 c s m X L A la lo 0 false) =
  some (.exit 2, ⟨[(3, .ptr 0 0), (4, .ptr 1 0), (5, .ptr 2 0), (7, .ptr 3 0), (8, .dat (encSds L)), (13, .dat (di lo)), (15, .dat (.bool (A.foldl (g_fd la X.log) false)))], [boxC c, boxS s, boxMsg m, boxS X, arrBl A]⟩) := by
 refine loop_fold (S_c1 c s m X L A la lo) (fun _ _ => True) A (g_fd la X.log) (fun b => (.exit 2, ⟨[(3, .ptr 0 0), (4, .ptr 1 0), (5, .ptr 2 0), (7, .ptr 3 0), (8, .dat (encSds L)), (13, .dat (di lo)), (15, .dat (.bool b))], [boxC c, boxS s, boxMsg m, boxS X, arrBl A]⟩)) false trivial (fun i b hi _ => ⟨trivial, nextK_some ?_⟩) (fun b _ => ?_) (fun a s h => by cases h) n (by omega)
 ·have hi' : (i : Int) < A.length := by omega
  have hw := wrap_i i (by omega)
  have he := eq_plain_SameEntries (n := n) (d := d + 13) A[i].log X.log (hA _ (List.getElem_mem hi)) (by omega)
  unfold g_fd
  cases b
  ·by_cases h2 : A[i].last = la
   ·have h2' := eq_true h2
    cases hq : decide (A[i].log = X.log)
    ·rw [hq] at he
     simp [xf_law11_ChangeChoice_b1, xf_law11_ChangeChoice_k1, S_c1, hi, hi', hw, h2', he]
    ·rw [hq] at he
     simp [xf_law11_ChangeChoice_b1, xf_law11_ChangeChoice_k1, S_c1, hi, hi', hw, h2', he]
   ·have h2' := eq_false h2
    simp [xf_law11_ChangeChoice_b1, xf_law11_ChangeChoice_k1, S_c1, hi, hi', hw, h2']
  ·simp [xf_law11_ChangeChoice_b1, xf_law11_ChangeChoice_k1, S_c1, hi, hi', hw]
 ·simp [xf_law11_ChangeChoice_b1, S_c1]
def S_c2 (c : Cfg) (X : State) (L : List Send) (i : Nat) : St := ⟨[(3, .ptr 0 0), (7, .ptr 1 0), (8, .dat (encSds L)), (17, .dat (di (cnt 8 (L.take i) : Nat))), (18, .dat (di i))], [boxC c, boxS X]⟩
theorem l_c2 (c : Cfg) (X : State) (L : List Send) (hl : L.length ≤ 1000) (hX : X.log.length ≤ 1048577) (hL : ∀ x ∈ L, x.msg.kind = 8 → x.msg.log = X.log ∧ x.msg.commit ≤ X.commit) (hn : 1048577 < n) : loopAt (XCode.run (runFn T n (d + 14)) n 0 xf_law11_ChangeChoice_b2) (headOf 0 xf_law11_ChangeChoice_k2) n (S_c2 c X L 0) =
  some (.exit 4, ⟨[(3, .ptr 0 0), (17, .dat (di (cnt 8 L : Nat)))], [boxC c, boxS X]⟩) := by
 refine loop_for (S_c2 c X L) L.length _ (fun i hi => nextK_some ?_) ?_ (fun s h => by cases h) n (by omega)
 ·have hi' : (i : Int) < L.length := by omega
  have hw := wrap_i i (by omega)
  have c8 := cnt_take (k := 8) hi
  have b8 := cnt_le (k := 8) (L := L) (i := i)
  have w8 := wrap_i (cnt 8 (L.take i)) (by omega)
  unfold S_c2
  rw [c8]
  generalize cnt 8 (L.take i) = B at *
  by_cases q8 : L[i].msg.kind = 8
  ·have q8' := eq_true q8
   obtain ⟨l1, l2⟩ := hL _ (List.getElem_mem hi) q8
   have he := eq_plain_SameEntries (n := n) (d := d + 13) X.log X.log hX hn
   have hd : decide (X.log = X.log) = true := by simp
   rw [hd] at he
   have l3 : ¬ X.commit < L[i].msg.commit := by omega
   simp [xf_law11_ChangeChoice_b2, xf_law11_ChangeChoice_k2, hi, hi', hw, q8', w8, l1, l3, he]
  ·have q8' := eq_false q8
   simp [xf_law11_ChangeChoice_b2, xf_law11_ChangeChoice_k2, hi, hi', hw, q8']
 ·simp [xf_law11_ChangeChoice_b2, S_c2]
set_option maxRecDepth 100000 in
theorem alive11c : runFn T 2097158 14 6 [] [] = some (.dat (.bool true), []) := by kernel_rfl
theorem law_ChangeChoice (c : Cfg) (s : State) (m : Msg) (hs : Small2 s) (hm : SmallM m) (hN : ∀ x ∈ s.vector, Nn x) (hn : 2097157 < n) (hal : runFn T n (d + 14) 6 [] [] = some (.dat (.bool true), [])) :
  ∃ H, runFn T n (d + 15) 3 [.dat (encCfg c), .dat (encS s), .dat (encM m)] [] = some (.dat (.bool true), H) := by
 have st := e_change_Vote (n := n) (d := d + 2) c s m hs hm hN hn
 have nm := e_num11 (n := n) (d := d + 13) (kErr c s m 7)
 obtain ⟨sX, sL⟩ := call7_small (c := c) (s := s) (m := m) hs hm
 by_cases hE : kErr c s m 7 = 0
 ·obtain ⟨ch, nch⟩ := choice_call hE
  have hc := (head_of (kErr_zero hE).1).1
  rw [hE] at st nm
  generalize callS 7 c s m = X at *
  generalize callL 7 c s m = L at *
  by_cases led : X.status = 1 ∧ (s.status = 2 ∨ s.view < X.view)
  ·obtain ⟨p1, p2, p3, p4, p5, p6, p7, p8, p9, p10⟩ := ch led
   have pr := e_core_Primary (n := n) (d := d + 11) c m.view
   rw [← p2] at pr
   have cp := e_plain_CopyState (n := n) (d := d + 12) s hs.toSmall (by omega)
   have hbl := hs.ballots
   have hAl : (allB s m).length ≤ 1048579 := by
    unfold allB
    rw [List.length_append]
    split <;> simp <;> omega
   have hA : ∀ x ∈ allB s m, x.log.length ≤ 1048577 := by
    intro x hx
    unfold allB at hx
    rcases List.mem_append.1 hx with hx | hx
    ·split at hx
     ·cases hx
     ·exact hs.blogs x hx
    ·simp only [List.mem_cons, List.not_mem_nil, or_false] at hx
     rcases hx with rfl | rfl
     ·exact hs.log
     ·have := hm.log; exact Nat.le_succ_of_le this
   have h0 := l_c0 (n := n) (runFn T n (d + 14)) c s m X L (allB s m) hAl (by omega)
   have h1 := l_c1 (n := n) (d := d) c s m X L (allB s m) ((allB s m).foldl g_key (-1, -1)).1 ((allB s m).foldl g_key (-1, -1)).2 hAl hA (by omega)
   have h2 := l_c2 (n := n) (d := d) c X L sL.1 sX.log p9 (by omega)
   rw [fd_true _ _ (.inr p6), p5] at h1
   rw [p5] at h0
   have hwf : IntKind.wrap .i64 (2 * c.f) = 2 * c.f := wrap_small (by unfold cfgOk at hc; omega)
   have hcnt : ((cnt 8 L : Nat) : Int) = 2 * c.f := p10
   rw [hcnt] at h2
   have hc0 : ∀ k : Int, cnt k ([] : List Send) = 0 := fun _ => rfl
   have hv1 : ¬ m.view < s.view := by omega
   have hx1 := eq_true p3
   have hx2 := eq_true p4
   have ht := eq_true led.1
   have hL1 : s.ballots.length + 2 ≤ LIM := by simp only [LIM]; omega
   have hL2 : 2 ≤ LIM := by simp only [LIM]; omega
   have hq1 : ¬ (X.commit < s.commit ∧ X.commit < X.log.length) := p7
   have hq2 : ¬ (X.commit < m.commit ∧ X.commit < X.log.length) := p8
   generalize (List.foldl g_key (-1, -1) (allB s m)).1 = LA at *
   have hc1 : ∀ k : Int, cnt k ([] : List Send) = 0 := fun _ => rfl
   have hs1 : s.self = s.self := rfl
   simp [S_c2, xf_law11_ChangeChoice_k2, hc0] at h2
   by_cases hv : s.view < m.view
   ·have hA0 : allB s m = [zB s.last s.commit s.log, zB m.last m.commit m.log] := by unfold allB; rw [if_pos hv]; rfl
    have hv2 : s.view < X.view := by omega
    rw [hA0] at h0 h1
    simp [S_c0, boxMsg, arrBl, encBal, xf_law11_ChangeChoice_k0] at h0
    simp [S_c1, boxMsg, arrBl, encBal, xf_law11_ChangeChoice_k1] at h1
    by_cases q2 : s.status = 2
    ·have q2' := eq_true q2
     have n12 : X.commit < X.log.length → ¬ X.commit < s.commit ∧ ¬ X.commit < m.commit := fun h => ⟨fun g => hq1 ⟨g, h⟩, fun g => hq2 ⟨g, h⟩⟩
     rw [runFn_succ]
     by_cases r1 : X.commit < X.log.length
     ·obtain ⟨n1, n2⟩ := n12 r1
      simp (maxSteps := 1000000) [T, xf_law11_ChangeChoice, xf_law11_ChangeChoice_k0, xf_law11_ChangeChoice_k1, xf_law11_ChangeChoice_k2, hal, st, nm, pr, cp, copyAV, copyH, ht, q2', hv, hv2, hv1, hx1, hx2, hc1, hL1, hL2, h0, h1, h2, hwf, r1, n1, n2]
     ·simp (maxSteps := 1000000) [T, xf_law11_ChangeChoice, xf_law11_ChangeChoice_k0, xf_law11_ChangeChoice_k1, xf_law11_ChangeChoice_k2, hal, st, nm, pr, cp, copyAV, copyH, ht, q2', hv, hv2, hv1, hx1, hx2, hc1, hL1, hL2, h0, h1, h2, hwf, r1]
    ·have q2' := eq_false q2
     have n12 : X.commit < X.log.length → ¬ X.commit < s.commit ∧ ¬ X.commit < m.commit := fun h => ⟨fun g => hq1 ⟨g, h⟩, fun g => hq2 ⟨g, h⟩⟩
     rw [runFn_succ]
     by_cases r1 : X.commit < X.log.length
     ·obtain ⟨n1, n2⟩ := n12 r1
      simp (maxSteps := 1000000) [T, xf_law11_ChangeChoice, xf_law11_ChangeChoice_k0, xf_law11_ChangeChoice_k1, xf_law11_ChangeChoice_k2, hal, st, nm, pr, cp, copyAV, copyH, ht, q2', hv, hv2, hv1, hx1, hx2, hc1, hL1, hL2, h0, h1, h2, hwf, r1, n1, n2]
     ·simp (maxSteps := 1000000) [T, xf_law11_ChangeChoice, xf_law11_ChangeChoice_k0, xf_law11_ChangeChoice_k1, xf_law11_ChangeChoice_k2, hal, st, nm, pr, cp, copyAV, copyH, ht, q2', hv, hv2, hv1, hx1, hx2, hc1, hL1, hL2, h0, h1, h2, hwf, r1]
   ·have hA0 : allB s m = s.ballots ++ [zB s.last s.commit s.log, zB m.last m.commit m.log] := by unfold allB; rw [if_neg hv]
    have hv2 : ¬ s.view < X.view := by omega
    have q2 : s.status = 2 := by omega
    have q2' := eq_true q2
    rw [hA0] at h0 h1
    simp [S_c0, boxMsg, arrBl, encBal, xf_law11_ChangeChoice_k0] at h0
    simp [S_c1, boxMsg, arrBl, encBal, xf_law11_ChangeChoice_k1] at h1
    have n12 : X.commit < X.log.length → ¬ X.commit < s.commit ∧ ¬ X.commit < m.commit := fun h => ⟨fun g => hq1 ⟨g, h⟩, fun g => hq2 ⟨g, h⟩⟩
    rw [runFn_succ]
    by_cases r1 : X.commit < X.log.length
    ·obtain ⟨n1, n2⟩ := n12 r1
     simp (maxSteps := 1000000) [T, xf_law11_ChangeChoice, xf_law11_ChangeChoice_k0, xf_law11_ChangeChoice_k1, xf_law11_ChangeChoice_k2, hal, st, nm, pr, cp, copyAV, copyH, ht, q2', hv, hv2, hv1, hx1, hx2, hc1, hL1, hL2, h0, h1, h2, hwf, r1, n1, n2]
    ·simp (maxSteps := 1000000) [T, xf_law11_ChangeChoice, xf_law11_ChangeChoice_k0, xf_law11_ChangeChoice_k1, xf_law11_ChangeChoice_k2, hal, st, nm, pr, cp, copyAV, copyH, ht, q2', hv, hv2, hv1, hx1, hx2, hc1, hL1, hL2, h0, h1, h2, hwf, r1]
  ·rcases nch led with k | ⟨k1, k2, k3⟩
   ·have k' := eq_false k
    rw [runFn_succ]
    simp (maxSteps := 1000000) [T, xf_law11_ChangeChoice, hal, st, nm, k']
   ·have k1' := eq_true k1
    have k2' := eq_true k2
    rw [k3] at st
    have k4 : ¬ (X.status = 1 ∧ (s.status = 2 ∨ s.view < X.view)) := led
    by_cases q : X.status = 1
    ·have q' := eq_true q
     have q2 : (s.status = 2) = False := eq_false (by omega)
     have q3 : ¬ s.view < X.view := by omega
     rw [runFn_succ]
     simp (maxSteps := 1000000) [T, xf_law11_ChangeChoice, hal, st, nm, q', k1', k2', q2, q3]
    ·have q' := eq_false q
     rw [runFn_succ]
     simp (maxSteps := 1000000) [T, xf_law11_ChangeChoice, hal, st, nm, q']
 ·have e2 : callL 7 c s m = [] := by unfold callL; rw [if_pos hE]
  rw [e2] at st
  generalize callS 7 c s m = X at *
  generalize kErr c s m 7 = E at *
  rw [runFn_succ]
  simp [T, xf_law11_ChangeChoice, hal, st, nm, hE]
end Go.Ax
