/-
  ChangeStands, evaluated: what goes out, a round.
-/
import Derived.Test.YtfahaejohbmbpaaGreatDoorRR
namespace Go.Ax
set_option linter.all false
variable {n d : Nat}
set_option maxRecDepth 10000
set_option linter.unusedSimpArgs false
set_option maxHeartbeats 16000000
theorem msg_client {c : Cfg} {m : Msg} (h : msgErr c m = 0) (hk : m.kind = 2) : 0 ≤ m.entry.client ∧ m.entry.client < 16 := by
 have hr := msg_rest h
 unfold restOk at hr
 rw [hk] at hr
 simp only [v_2_6, Bool.and_eq_true, Bool.not_true, Bool.false_or] at hr
 have ha := hr.1
 unfold asksOk at ha
 split at ha
 ·cases ha
 ·omega
def S_rt (c : Cfg) (X : State) (L : List Send) (i : Nat) : St := ⟨[(2, .dat (encSds L)), (3, .ptr 0 0), (4, .ptr 1 0), (7, .dat (di i))], [boxC c, boxS X]⟩
theorem e_right (c : Cfg) (X : State) (L : List Send) (hX : Small2 X) (hL : SmallL L) (hr : ∀ x ∈ L, RightM c X x) (hn : 2097157 < n) :
  runFn T n (d + 14) 18 [.dat (encCfg c), .dat (encS X), .dat (encSds L)] [] = some (.dat (.bool true), []) := by
 have main : loopAt (XCode.run (runFn T n (d + 13)) n 0 xf_law11_right_b0) (headOf 0 xf_law11_right_k0) n (S_rt c X L 0) = some (.exit 0, ⟨[], [boxC c, boxS X]⟩) := by
  refine loop_for (S_rt c X L) L.length _ (fun i hi => nextK_some ?_) ?_ (fun s h => by cases h) n (by have := hL.1; omega)
  ·have hi' : (i : Int) < L.length := by omega
   have hw := wrap_i i (by have := hL.1; omega)
   have hx := hr _ (List.getElem_mem hi)
   have hsm := hL.2 _ (List.getElem_mem hi)
   obtain ⟨r1, r2, r3, r4, r5, r6⟩ := hx
   have mc := e_message_Check (n := n) (d := d + 10) c L[i].msg (by have := hsm.log; omega) (by omega)
   rw [r1] at mc
   have nm := e_num11 (n := n) (d := d + 12) 0
   have nd := e_core_Nodes (n := n) (d := d + 11) c
   have sv := eq_plain_SameVector (n := n) (d := d + 12) L[i].msg.vector X.vector (by have := hsm.vector; omega) (by omega)
   have r2' := eq_true r2
   have r3' := eq_true r3
   have r4' := eq_false r4
   by_cases k2 : L[i].msg.kind = 2
   ·have k2' := eq_true k2
    have hto := r5 k2
    have hcl := msg_client r1 k2
    have hwr : IntKind.wrap .i64 (7 + L[i].msg.entry.client) = 7 + L[i].msg.entry.client := wrap_small (by omega)
    have hto' := eq_true hto
    simp (maxSteps := 1000000) [xf_law11_right_b0, xf_law11_right_k0, S_rt, hi, hi', hw, mc, nm, r2', r3', r4', k2', hwr, hto']
   ·have k2' := eq_false k2
    obtain ⟨o1, o2, o3⟩ := r6 k2
    have o1' : ¬ L[i].to < 0 := by omega
    have o2' : ¬ nodesOf c ≤ L[i].to := by omega
    rw [decide_eq_true o3] at sv
    simp (maxSteps := 1000000) [xf_law11_right_b0, xf_law11_right_k0, S_rt, hi, hi', hw, mc, nm, nd, sv, r2', r3', r4', k2', o1', o2']
  ·simp [xf_law11_right_b0, S_rt]
 simp [S_rt, xf_law11_right_k0] at main
 rw [runFn_succ]
 simp [T, xf_law11_right, xf_law11_right_k0, main]
abbrev boxO2 (s : State) : Blk := .box [.dat (di s.self), .dat (di s.status), .dat (di s.view), .dat (di s.last), .own 2 0 s.log.length, .dat (di s.commit), .own 3 0 s.vector.length, .dat (di s.idle), .own 4 0 s.acks.length, .own 5 0 s.marks.length, .own 6 0 s.ballots.length, .own 7 0 s.answers.length]
abbrev H2O (c : Cfg) (now : State) (z : Bool) : List Blk := [boxC c, boxO2 now, .arr 38 5 true z (now.log.map encE), .arr 43 2 true z (now.vector.map encD), .arr 102 4 true z (now.acks.map encAck), .arr 104 3 true z (now.marks.map encMark), .arr 55 6 false z (now.ballots.map encBal), .arr 77 6 false z (now.answers.map encAns)]
abbrev H2D (c : Cfg) (now : State) : List Blk := [boxC c, boxS now]
abbrev encMsl (l : List Msg) : Dat := .sl 18 false (l.map encM)
def H_sd (c : Cfg) (now : State) (f : Nat) : List Blk := if f = 2 then H2D c now else H2O c now (f == 1)
def S_sd (c : Cfg) (l : List Msg) (i : Nat) (a : State × Nat) : St := ⟨[(2, .dat (encMsl l)), (3, .ptr 0 0), (10, .ptr 1 0), (11, .dat (di i))], H_sd c a.1 a.2⟩
def g_sd (c : Cfg) (a : State × Nat) (m : Msg) : State × Nat := if stpE c a.1 m = 0 then (stpS c a.1 m, 2) else (a.1, if a.2 = 2 then 2 else 1)
structure I_sd (c : Cfg) (a : State × Nat) : Prop where
 ok : stateErr c a.1 = 0
 small : Small2 a.1
 nn : ∀ x ∈ a.1.vector, Nn x
 form : a.2 = 0 ∨ a.2 = 1 ∨ a.2 = 2
theorem step_sd {c : Cfg} {a : State × Nat} {m : Msg} (h : I_sd c a) (hm : SmallM m) (hM : ∀ x ∈ m.vector, Nn x) : I_sd c (g_sd c a m) := by
 unfold g_sd
 split
 ·rename_i he
  exact ⟨(stp_stand he).ok, (stp_small h.small hm).1, stp_nn he h.nn hM, .inr (.inr rfl)⟩
 ·refine ⟨h.ok, h.small, h.nn, ?_⟩
  simp only
  split <;> simp
theorem mxd_up (x y : Draw) : cmp x (mxd x y) ≤ 0 := by
 unfold mxd
 split
 ·omega
 ·rw [cmp_self]; omega
theorem vec_up {c : Cfg} {s : State} {m : Msg} (h : stpE c s m = 0) : (stpS c s m).vector.length = s.vector.length ∧ ∀ k, k < s.vector.length → cmp (s.vector.getD k ⟨0, 0⟩) ((stpS c s m).vector.getD k ⟨0, 0⟩) ≤ 0 := by
 rcases stp_vec h with e | ⟨e, hl⟩
 ·rw [e]; exact ⟨rfl, fun k _ => by rw [cmp_self]; omega⟩
 ·rw [e]
  refine ⟨by simp [mxv, hl], fun k hk => ?_⟩
  rw [mxv_get hl hk]
  exact mxd_up _ _
theorem r_sd (c : Cfg) (l : List Msg) (i : Nat) (hi : i < l.length) (now : State) (f : Nat) (hI : I_sd c (now, f)) (hl : l.length ≤ 1048576) (hm : ∀ m ∈ l, SmallM m ∧ ∀ x ∈ m.vector, Nn x) (hn : 2097157 < n) :
  nextK (headOf 0 xf_law11_ChangeStands_k0) (XCode.run (runFn T n (d + 14)) n 0 xf_law11_ChangeStands_b0 (S_sd c l i (now, f))) = some (S_sd c l (i + 1) (g_sd c (now, f) l[i])) := by
 have hi' : (i : Int) < l.length := by omega
 have hw := wrap_i i (by omega)
 obtain ⟨hmi, hmn⟩ := hm _ (List.getElem_mem hi)
 have hok : stateErr c now = 0 := hI.ok
 have hsm : Small2 now := hI.small
 have hnn : ∀ x ∈ now.vector, Nn x := hI.nn
 have st := e_step11 (n := n) (d := d + 1) c now l[i] hsm hmi hnn hn
 obtain ⟨sX, sL⟩ := stp_small (c := c) hsm hmi
 have nm := fun k => e_num11 (n := n) (d := d + 13) k
 have hf := hI.form
 simp only at hf
 unfold g_sd
 by_cases hE : stpE c now l[i] = 0
 ·simp only [hE, if_true]
  obtain ⟨a1, a2, a3, a4, _, a6, a7, a8⟩ := stp_stand hE
  obtain ⟨u1, u2⟩ := vec_up hE
  obtain ⟨_, g1, _, g3, gc⟩ := nodes_ok hok
  have hv7 : now.vector.length ≤ 7 := by simp only [NN] at g1; unfold cfgOk at gc; omega
  obtain ⟨r, hr, o3⟩ := e_Compare_up (n := n) (d := d + 12) now.vector (stpS c now l[i]).vector u1 hv7 u2 (by omega)
  have ck := e_core_Check (n := n) (d := d + 9) c (stpS c now l[i]) sX.toSmall (by omega)
  rw [a1] at ck
  have rt := e_right (n := n) (d := d) c (stpS c now l[i]) (stpL c now l[i]) sX sL a2 hn
  have se := eq_plain_SameEntries (n := n) (d := d + 13) (stpS c now l[i]).log now.log sX.log (by omega)
  rw [hE] at st
  generalize stpS c now l[i] = X at *
  generalize stpL c now l[i] = L at *
  have w1 : ¬ X.view < now.view := by omega
  have w2 : ¬ X.last < now.last := by omega
  have hLl : X.status = 3 → L.length = 0 := fun h => by rw [a8 h]; rfl
  by_cases q1 : now.last < X.last
  ·have s1 := a6 q1
   have s1' := eq_true s1
   have s2' : (X.status = 2) = False := eq_false (by omega)
   have s3' : (X.status = 3) = False := eq_false (by omega)
   rcases hf with hf | hf | hf <;> subst hf <;> rcases hr with hr | hr <;> subst hr <;>
    simp (maxSteps := 2000000) [xf_law11_ChangeStands_b0, xf_law11_ChangeStands_k0, S_sd, H_sd, hi, hi', hw, nm, st, o3, ck, rt, w1, w2, q1, s1', s2', s3']
  ·by_cases q2 : X.status = 2
   ·obtain ⟨e1, e2, e3⟩ := a7 q2
    have q2' := eq_true q2
    have s3' : (X.status = 3) = False := eq_false (by omega)
    have e1' := eq_true e1
    have e2' := eq_true e2
    rw [decide_eq_true e3] at se
    rcases hf with hf | hf | hf <;> subst hf <;> rcases hr with hr | hr <;> subst hr <;>
     simp (maxSteps := 2000000) [xf_law11_ChangeStands_b0, xf_law11_ChangeStands_k0, S_sd, H_sd, hi, hi', hw, nm, st, o3, ck, rt, w1, w2, q1, q2', s3', e1', e2', se]
   ·have q2' := eq_false q2
    by_cases q3 : X.status = 3
    ·have q3' := eq_true q3
     have hL0 := a8 q3
     subst hL0
     rcases hf with hf | hf | hf <;> subst hf <;> rcases hr with hr | hr <;> subst hr <;>
      simp (maxSteps := 2000000) [xf_law11_ChangeStands_b0, xf_law11_ChangeStands_k0, S_sd, H_sd, hi, hi', hw, nm, st, o3, ck, rt, w1, w2, q1, q2', q3']
    ·have q3' := eq_false q3
     rcases hf with hf | hf | hf <;> subst hf <;> rcases hr with hr | hr <;> subst hr <;>
      simp (maxSteps := 2000000) [xf_law11_ChangeStands_b0, xf_law11_ChangeStands_k0, S_sd, H_sd, hi, hi', hw, nm, st, o3, ck, rt, w1, w2, q1, q2', q3']
 ·simp only [hE, if_false]
  obtain ⟨e1, e2⟩ := stp_bad hE
  rw [e1, e2] at st
  generalize stpE c now l[i] = E at *
  rcases hf with hf | hf | hf <;> subst hf <;>
   simp (maxSteps := 2000000) [xf_law11_ChangeStands_b0, xf_law11_ChangeStands_k0, S_sd, H_sd, hi, hi', hw, nm, st, hE, zeroS]
set_option maxRecDepth 100000 in
theorem alive11s : runFn T 2097158 14 6 [] [] = some (.dat (.bool true), []) := by kernel_rfl
theorem law_ChangeStands (c : Cfg) (s : State) (l : List Msg) (hs : Small2 s) (hN : ∀ x ∈ s.vector, Nn x) (hl : l.length ≤ 1048576) (hm : ∀ m ∈ l, SmallM m ∧ ∀ x ∈ m.vector, Nn x) (hn : 2097157 < n) (hal : runFn T n (d + 14) 6 [] [] = some (.dat (.bool true), [])) :
  ∃ H, runFn T n (d + 15) 5 [.dat (encCfg c), .dat (encS s), .dat (encMsl l)] [] = some (.dat (.bool true), H) := by
 have o1 := e_core_Check (n := n) (d := d + 9) c s hs.toSmall (by omega)
 have o2 := e_ref09_Check (n := n) (d := d + 7) c s hs.toSmall (by omega)
 have cp := e_plain_CopyState (n := n) (d := d + 12) s hs.toSmall (by omega)
 have n1 := e_num11 (n := n) (d := d + 13) (stateErr c s)
 have su := e_change_Suspect (n := n) (d := d + 5) c s hs hn
 by_cases he : stateErr c s = 0
 ·rw [he] at o1 o2 n1
  have main := loop_fold (body := XCode.run (runFn T n (d + 14)) n 0 xf_law11_ChangeStands_b0) (head := headOf 0 xf_law11_ChangeStands_k0) (S_sd c l) (fun _ a => I_sd c a) l (g_sd c) (fun a => (.exit 0, ⟨[], H_sd c a.1 a.2⟩)) (s, 0) ⟨he, hs, hN, .inl rfl⟩
   (fun i a hi hI => ⟨step_sd hI (hm _ (List.getElem_mem hi)).1 (hm _ (List.getElem_mem hi)).2, nextK_some ?_⟩) (fun a hI => ?_) (fun a s h => by cases h) n (by omega)
  ·generalize List.foldl (g_sd c) (s, 0) l = Z at main
   simp [S_sd, H_sd, xf_law11_ChangeStands_k0] at main
   rw [runFn_succ]
   simp [T, xf_law11_ChangeStands, xf_law11_ChangeStands_k0, hal, o1, o2, n1, cp, main, copyAV, copyH]
  ·exact r_sd (n := n) (d := d) c l i hi a.1 a.2 hI hl hm hn
  ·simp [xf_law11_ChangeStands_b0, S_sd]
 ·have hsE : susErr c s = stateErr c s := by unfold susErr; rw [if_pos he]
  have hsL : susL c s = [] := by unfold susL; rw [if_pos (by rw [hsE]; exact he)]
  rw [hsE, hsL] at su
  generalize susS c s = X at *
  generalize hSE : stateErr c s = SE at *
  rw [runFn_succ]
  simp [T, xf_law11_ChangeStands, hal, o1, o2, n1, su, he]
end Go.Ax
