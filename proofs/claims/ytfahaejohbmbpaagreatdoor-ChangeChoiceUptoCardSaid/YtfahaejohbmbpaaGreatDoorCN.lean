/-
  ChangeCounts, evaluated.
-/
import Derived.Test.YtfahaejohbmbpaaGreatDoorRR
namespace Go.Ax
set_option linter.all false
variable {n d : Nat}
set_option maxRecDepth 10000
set_option linter.unusedSimpArgs false
set_option maxHeartbeats 8000000
theorem cnt_take {k : Int} {L : List Send} {i : Nat} (h : i < L.length) : cnt k (L.take (i + 1)) = cnt k (L.take i) + if L[i].msg.kind = k then 1 else 0 := by
 rw [List.take_succ_eq_append_getElem h, cnt_app]
 unfold cnt
 simp [List.countP_cons]
theorem cnt_le {k : Int} {L : List Send} {i : Nat} : cnt k (L.take i) ≤ i := Nat.le_trans List.countP_le_length (by simp; omega)
def S_cc (c : Cfg) (s : State) (m : Msg) (X : State) (L : List Send) (i : Nat) : St := ⟨[(3, .ptr 0 0), (4, .ptr 1 0), (5, .ptr 2 0), (7, .ptr 3 0), (8, .dat (encSds L)), (10, .dat (di (cnt 7 (L.take i) : Nat))), (11, .dat (di (cnt 8 (L.take i) : Nat))), (12, .dat (di i))], [boxC c, boxS s, boxMsg m, boxS X]⟩
theorem l_cc (cf : CallF) (c : Cfg) (s : State) (m : Msg) (X : State) (L : List Send) (hl : L.length ≤ 1000) (hn : 1048577 < n) : loopAt (XCode.run cf n 0 xf_law11_ChangeCounts_b0) (headOf 0 xf_law11_ChangeCounts_k0) n (S_cc c s m X L 0) =
  some (.exit 0, ⟨[(3, .ptr 0 0), (4, .ptr 1 0), (5, .ptr 2 0), (7, .ptr 3 0), (10, .dat (di (cnt 7 L : Nat))), (11, .dat (di (cnt 8 L : Nat)))], (S_cc c s m X L 0).H⟩) := by
 refine loop_for (S_cc c s m X L) L.length _ (fun i hi => nextK_some ?_) ?_ (fun s h => by cases h) n (by omega)
 ·have hi' : (i : Int) < L.length := by omega
  have hw := wrap_i i (by omega)
  have c7 := cnt_take (k := 7) hi
  have c8 := cnt_take (k := 8) hi
  have b7 := cnt_le (k := 7) (L := L) (i := i)
  have b8 := cnt_le (k := 8) (L := L) (i := i)
  have w7 := wrap_i (cnt 7 (L.take i)) (by omega)
  have w8 := wrap_i (cnt 8 (L.take i)) (by omega)
  unfold S_cc
  rw [c7, c8]
  generalize cnt 7 (L.take i) = A at *
  generalize cnt 8 (L.take i) = B at *
  by_cases q7 : L[i].msg.kind = 7
  ·have q7' := eq_true q7
   have q8' : (L[i].msg.kind = 8) = False := eq_false (by omega)
   simp [xf_law11_ChangeCounts_b0, xf_law11_ChangeCounts_k0, hi, hi', hw, q7', q8', w7]
  ·have q7' := eq_false q7
   by_cases q8 : L[i].msg.kind = 8
   ·have q8' := eq_true q8
    simp [xf_law11_ChangeCounts_b0, xf_law11_ChangeCounts_k0, hi, hi', hw, q7', q8', w8]
   ·have q8' := eq_false q8
    simp [xf_law11_ChangeCounts_b0, xf_law11_ChangeCounts_k0, hi, hi', hw, q7', q8']
 ·simp [xf_law11_ChangeCounts_b0, S_cc]
theorem counts_plain {c : Cfg} {s : State} {m : Msg} (h : stpE c s m = 0) : cfgOk c ∧ cnt 7 (stpL c s m) ≤ 1 ∧ (cnt 7 (stpL c s m) ≠ 0 → m.kind = 6 ∧ c.f ≤ (stpS c s m).marks.length) ∧ (cnt 8 (stpL c s m) ≠ 0 → m.kind = 7 ∧ c.f - 1 ≤ s.ballots.length ∧ (stpS c s m).status = 1) ∧
  ((m.kind = 6 ∨ m.kind = 7 ∨ m.kind = 8) → stpE c (stpS c s m) m = 0 ∧ stpS c (stpS c s m) m = stpS c s m ∧ stpL c (stpS c s m) m = []) := by
 have hc := (head_of (stp_stand h).ok).1
 refine ⟨hc, ?_⟩
 rcases stp_cases c s m with ⟨k, hk, hkd, e⟩ | ⟨h6, h7, h8, e⟩
 ·obtain ⟨e1, e2, e3⟩ := e s
  rw [e3] at h
  obtain ⟨f1, f2, f3⟩ := e (stpS c s m)
  rw [f1, f2, f3, e1, e2]
  obtain ⟨a1, a2, a3⟩ := count_call hk h
  obtain ⟨_, b2, b3, b4⟩ := call_again hk h
  exact ⟨a1, fun q => ⟨by have := a2 q; omega, (a2 q).2⟩, fun q => ⟨by have := a3 q; omega, (a3 q).2⟩, fun _ => ⟨b2, b3, b4⟩⟩
 ·obtain ⟨e1, e2, e3⟩ := e s
  obtain ⟨a1, a2⟩ := count_sus c s
  rw [e1, e2]
  exact ⟨by omega, fun q => absurd a1 q, fun q => absurd a2 q, fun q => by omega⟩
theorem law_ChangeCounts (c : Cfg) (s : State) (m : Msg) (hs : Small2 s) (hm : SmallM m) (hN : ∀ x ∈ s.vector, Nn x) (hM : ∀ x ∈ m.vector, Nn x) (hn : 2097157 < n) (hal : ∃ H, runFn T n (d + 14) 6 [] [] = some (.dat (.bool true), H)) :
  ∃ H, runFn T n (d + 15) 4 [.dat (encCfg c), .dat (encS s), .dat (encM m)] [] = some (.dat (.bool true), H) := by
 have st := e_step11 (n := n) (d := d + 1) c s m hs hm hN hn
 have nm := e_num11 (n := n) (d := d + 13) (stpE c s m)
 obtain ⟨sX, sL⟩ := stp_small (c := c) hs hm
 obtain ⟨AH, hal⟩ := hal
 by_cases hE : stpE c s m = 0
 ·obtain ⟨hc, c1, c2, c3, c4⟩ := counts_plain hE
  have hnn := stp_nn hE hN hM
  have st2 := e_step11 (n := n) (d := d + 1) c (stpS c s m) m sX hm hnn hn
  have hss := e_plain_SameState (n := n) (d := d + 11) (stpS c s m) sX.toSmall (by omega)
  rw [hE] at st nm
  have hwf : IntKind.wrap .i64 (c.f - 1) = c.f - 1 := wrap_small (by unfold cfgOk at hc; omega)
  have hL := l_cc (n := n) (runFn T n (d + 14)) c s m (stpS c s m) (stpL c s m) sL.1 (by omega)
  have fin : m.kind = 6 ∨ m.kind = 7 ∨ m.kind = 8 → runFn T n (d + 1 + 13) 12 [.dat (encCfg c), .dat (encS (stpS c s m)), .dat (encM m)] [] = some (.tup [.dat (encS (stpS c s m)), .dat (encSds []), .dat (di 0)], []) := by
   intro q
   obtain ⟨q1, q2, q3⟩ := c4 q
   rw [st2, q1, q2, q3]
  generalize stpS c s m = X at *
  generalize stpL c s m = L at *
  have hc0 : ∀ k : Int, cnt k ([] : List Send) = 0 := fun _ => rfl
  simp [S_cc, boxMsg, xf_law11_ChangeCounts_k0, hc0] at hL
  by_cases q7 : cnt 7 L = 0
  ·rw [q7] at hL
   by_cases q8 : cnt 8 L = 0
   ·rw [q8] at hL
    by_cases k6 : m.kind = 6
    ·have k6' := eq_true k6
     have f := fin (by omega)
     rw [runFn_succ]
     simp (maxSteps := 1000000) [T, xf_law11_ChangeCounts, xf_law11_ChangeCounts_k0, hal, st, nm, hL, k6', f, hss, hwf]
    ·have k6' := eq_false k6
     by_cases k7 : m.kind = 7
     ·have k7' := eq_true k7
      have f := fin (by omega)
      rw [runFn_succ]
      simp (maxSteps := 1000000) [T, xf_law11_ChangeCounts, xf_law11_ChangeCounts_k0, hal, st, nm, hL, k6', k7', f, hss, hwf]
     ·have k7' := eq_false k7
      by_cases k8 : m.kind = 8
      ·have k8' := eq_true k8
       have f := fin (by omega)
       rw [runFn_succ]
       simp (maxSteps := 1000000) [T, xf_law11_ChangeCounts, xf_law11_ChangeCounts_k0, hal, st, nm, hL, k6', k7', k8', f, hss, hwf]
      ·have k8' := eq_false k8
       rw [runFn_succ]
       simp (maxSteps := 1000000) [T, xf_law11_ChangeCounts, xf_law11_ChangeCounts_k0, hal, st, nm, hL, k6', k7', k8', hwf]
   ·obtain ⟨k7, r1, r2⟩ := c3 q8
    have k6' : (m.kind = 6) = False := eq_false (by omega)
    have k7' := eq_true k7
    have r2' := eq_true r2
    have f := fin (by omega)
    have r1' : ¬ (s.ballots.length : Int) < c.f - 1 := by omega
    have q8' : (0 : Int) < (cnt 8 L : Nat) := by omega
    generalize cnt 8 L = B at *
    rw [runFn_succ]
    simp (maxSteps := 1000000) [T, xf_law11_ChangeCounts, xf_law11_ChangeCounts_k0, hal, st, nm, hL, k6', k7', r1', r2', q8', f, hss, hwf]
  ·obtain ⟨k6, r1⟩ := c2 q7
   have q8 : cnt 8 L = 0 := by
    by_cases q8 : cnt 8 L = 0
    ·exact q8
    ·have := (c3 q8).1; omega
   have q7e : cnt 7 L = 1 := by omega
   rw [q7e, q8] at hL
   have k6' := eq_true k6
   have r1' : ¬ (X.marks.length : Int) < c.f := by omega
   have f := fin (by omega)
   rw [runFn_succ]
   simp (maxSteps := 1000000) [T, xf_law11_ChangeCounts, xf_law11_ChangeCounts_k0, hal, st, nm, hL, k6', r1', f, hss, hwf]
 ·obtain ⟨_, e2⟩ := stp_bad hE
  rw [e2] at st
  generalize stpS c s m = X at *
  generalize stpE c s m = E at *
  rw [runFn_succ]
  simp [T, xf_law11_ChangeCounts, hal, st, nm, hE]
end Go.Ax
