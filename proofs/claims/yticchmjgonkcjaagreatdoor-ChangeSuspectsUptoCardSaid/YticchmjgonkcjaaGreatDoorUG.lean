/-
  Suspect and Again, the program's and the document's, evaluated.
-/
import Derived.Test.YticchmjgonkcjaaGreatDoorQG
import Derived.Test.YticchmjgonkcjaaGreatDoorEH
namespace Go.Ax
set_option linter.all false
variable {n d : Nat}
set_option maxRecDepth 10000
set_option linter.unusedSimpArgs false
set_option maxHeartbeats 16000000
theorem carry0 {c : Cfg} {s : State} (h : stateErr c s = 0) : carryErr c s 0 = 0 ∧ carryS c s 0 = s ∧ carryL c s 0 = [] := by
 obtain ⟨_, _, h0, _⟩ := log_facts h
 have h1 : carryErr c s 0 = 0 := by unfold carryErr; rw [if_neg (by simp [h]), if_neg (by omega)]
 refine ⟨h1, ?_, ?_⟩
 ·unfold carryS; rw [if_neg (by simp [h1]), if_pos h0]
 ·unfold carryL; rw [if_neg (by simp [h1]), if_pos h0]
theorem view_of {c : Cfg} {s : State} (h : stateErr c s = 0) : 0 ≤ s.view ∧ s.view ≤ 4294967296 := by
 rw [stateErr_iff] at h
 obtain ⟨_, hh, _⟩ := h
 simp [headOff] at hh
 omega
theorem e_change_Suspect (c : Cfg) (s : State) (hs : Small2 s) (hn : 2097157 < n) :
  runFn T n (d + 9) 18 [.dat (encCfg c), .dat (encS s)] [] = some (.tup [.dat (encS (susS c s)), .dat (encSds (susL c s)), .dat (di (susErr c s))], []) := by
 have k1 := e_core_Check (n := n) (d := d + 3) c s hs.toSmall (by omega)
 have pr := e_core_Primary (n := n) (d := d + 5) c s.view
 have U47 := fun k a H => runFn_succ (n := n) T k 47 a H
 have U79 := fun k a H => runFn_succ (n := n) T k 79 a H
 have U49 := fun k a H => runFn_succ (n := n) T k 49 a H
 rw [runFn_succ]
 unfold susS susL susErr
 by_cases he : stateErr c s = 0
 ·rw [he] at k1
  rw [if_neg (show ¬ stateErr c s ≠ 0 by simp [he])]
  obtain ⟨y1, y2, y3⟩ := carry0 he
  have ca := e_core_Carry (n := n) (d := d + 2) c s 0 hs.toSmall (by omega)
  rw [y1, y2, y3] at ca
  obtain ⟨vw1, vw2⟩ := view_of he
  by_cases h3 : s.status = 3
  ·have h3' := eq_true h3
   have hw : ¬ waits c s := fun h => h (.inl h3)
   rw [if_neg hw]
   simp only [ne_eq, show ¬ (90 : Int) = 0 by decide, not_false_eq_true, if_true]
   simp [T, xf_change_Suspect, k1, h3', zeroS]
  ·have h3' := eq_false h3
   have tail : waits c s → runFn T n (d + 9) 18 [.dat (encCfg c), .dat (encS s)] [] = some (.tup [.dat (encS (if s.view < 4294967296 then goS s (s.view + 1) else s)), .dat (encSds (if s.view < 4294967296 then goL c s (s.view + 1) else [])), .dat (di 0)], []) := by
    intro hw
    have hgs := go_small2 hs (s.view + 1)
    have a1 := e_core_All (n := n) (d := d) c (goS s (s.view + 1)) (svcM (s.view + 1)) hgs ⟨by simp [svcM, zeroM], by simp [svcM, zeroM]⟩ (by omega)
    have haL : (if stateErr c (goS s (s.view + 1)) = 0 then allS c (goS s (s.view + 1)) (svcM (s.view + 1)) else []) = goL c s (s.view + 1) := rfl
    rw [haL] at a1
    have hgl : (goL c s (s.view + 1)).length ≤ 1048577 := by
     unfold goL allR
     split
     ·exact (allS_small hgs ⟨by simp [svcM, zeroM], by simp [svcM, zeroM]⟩).1
     ·simp
    generalize goL c s (s.view + 1) = L at *
    generalize stateErr c (goS s (s.view + 1)) = SE at *
    have hL1 : L.length ≤ LIM := by simp only [LIM]; omega
    have hz : (⟨#[]⟩ : ByteArray) = ByteArray.empty := rfl
    simp [goS, svcM, zeroM, encM, cellsM, encLog, encV, encS, cellsS, encAcks, encMarks, encBals, encAnss] at a1
    have hwr := wrap_small (x := s.view + 1) (by omega)
    rw [runFn_succ]
    by_cases h1 : s.status = 1
    ·have h1' := eq_true h1
     have hp : ¬ primaryOf c s.view = s.self := fun h => hw (.inr ⟨h1, h⟩)
     have hp' := eq_false hp
     by_cases hv : s.view < 4294967296
     ·rw [if_pos hv, if_pos hv]
      simp (maxSteps := 1000000) [T, xf_change_Suspect, xf_change_frame_goes, xf_change_frame_clear, xf_change_frame_all, U47, U49, U79, k1, pr, ca, a1, h3', h1', hp', hv, hwr, hL1, hz, goS]
     ·rw [if_neg hv, if_neg hv]
      simp (maxSteps := 1000000) [T, xf_change_Suspect, k1, pr, ca, h3', h1', hp', hv]
    ·have h1' := eq_false h1
     by_cases hv : s.view < 4294967296
     ·rw [if_pos hv, if_pos hv]
      simp (maxSteps := 1000000) [T, xf_change_Suspect, xf_change_frame_goes, xf_change_frame_clear, xf_change_frame_all, U47, U49, U79, k1, pr, ca, a1, h3', h1', hv, hwr, hL1, hz, goS]
     ·rw [if_neg hv, if_neg hv]
      simp (maxSteps := 1000000) [T, xf_change_Suspect, k1, pr, ca, h3', h1', hv]
   rw [runFn_succ] at tail
   by_cases hw : waits c s
   ·rw [if_pos hw]
    simp only [ne_eq, not_true_eq_false, if_false]
    exact tail hw
   ·have h1 : s.status = 1 ∧ primaryOf c s.view = s.self := by
     unfold waits at hw
     simp only [Classical.not_not] at hw
     rcases hw with h | h
     ·exact absurd h h3
     ·exact h
    have h1' := eq_true h1.1
    have hp' := eq_true h1.2
    rw [if_neg hw]
    simp only [ne_eq, show ¬ (90 : Int) = 0 by decide, not_false_eq_true, if_true]
    simp [T, xf_change_Suspect, k1, pr, h3', h1', hp', zeroS]
 ·rw [if_pos he, if_pos he, if_pos he]
  generalize stateErr c s = SE at *
  simp [T, xf_change_Suspect, k1, he, zeroS]
theorem e_ref11_Suspect (c : Cfg) (s : State) (hs : Small2 s) (hn : 2097157 < n) :
  runFn T n (d + 10) 19 [.dat (encCfg c), .dat (encS s)] [] = some (.tup [.dat (encS (susS c s)), .dat (encSds (susL c s)), .dat (di (susErr c s))], []) := by
 have k1 := e_ref09_Check (n := n) (d := d + 2) c s hs.toSmall (by omega)
 have pr := e_ref09_Primary (n := n) (d := d + 5) c s.view
 have cp := e_plain_CopyState (n := n) (d := d + 7) s hs.toSmall (by omega)
 rw [runFn_succ]
 unfold susS susL susErr
 by_cases he : stateErr c s = 0
 ·rw [he] at k1
  rw [if_neg (show ¬ stateErr c s ≠ 0 by simp [he])]
  obtain ⟨vw1, vw2⟩ := view_of he
  by_cases h3 : s.status = 3
  ·have h3' := eq_true h3
   have hw : ¬ waits c s := fun h => h (.inl h3)
   rw [if_neg hw]
   simp only [ne_eq, show ¬ (90 : Int) = 0 by decide, not_false_eq_true, if_true]
   simp [T, xf_ref11_Suspect, k1, h3', zeroS]
  ·have h3' := eq_false h3
   have tail : waits c s → runFn T n (d + 10) 19 [.dat (encCfg c), .dat (encS s)] [] = some (.tup [.dat (encS (if s.view < 4294967296 then goS s (s.view + 1) else s)), .dat (encSds (if s.view < 4294967296 then goL c s (s.view + 1) else [])), .dat (di 0)], []) := by
    intro hw
    have hwr := wrap_small (x := s.view + 1) (by omega)
    rw [runFn_succ]
    by_cases hv : s.view < 4294967296
    ·have hve : ¬ s.view = 4294967296 := by omega
     have hve' := eq_false hve
     rw [if_pos hv, if_pos hv]
     have hgo := go_ok he (view := s.view + 1) (by omega)
     have g := e_ref11_goTo (n := n) (d := d) c s (s.view + 1) hs (by omega) hgo
     generalize goL c s (s.view + 1) = L at *
     simp [goS, encS, cellsS, encAcks, encMarks, encBals, encAnss] at g
     by_cases h1 : s.status = 1
     ·have h1' := eq_true h1
      have hp : ¬ s.self = primaryOf c s.view := fun h => hw (.inr ⟨h1, h.symm⟩)
      have hp' := eq_false hp
      simp (maxSteps := 1000000) [T, xf_ref11_Suspect, k1, pr, g, h3', h1', hp', hve', hwr, goS]
     ·have h1' := eq_false h1
      simp (maxSteps := 1000000) [T, xf_ref11_Suspect, k1, pr, g, h3', h1', hve', hwr, goS]
    ·have hve : s.view = 4294967296 := by omega
     have hve' := eq_true hve
     rw [if_neg hv, if_neg hv]
     by_cases h1 : s.status = 1
     ·have h1' := eq_true h1
      have hp : ¬ s.self = primaryOf c s.view := fun h => hw (.inr ⟨h1, h.symm⟩)
      have hp' := eq_false hp
      simp (maxSteps := 1000000) [T, xf_ref11_Suspect, k1, pr, cp, h3', h1', hp', hve', copyAV, copyH]
     ·have h1' := eq_false h1
      simp (maxSteps := 1000000) [T, xf_ref11_Suspect, k1, pr, cp, h3', h1', hve', copyAV, copyH]
   rw [runFn_succ] at tail
   by_cases hw : waits c s
   ·rw [if_pos hw]
    simp only [ne_eq, not_true_eq_false, if_false]
    exact tail hw
   ·have h1 : s.status = 1 ∧ primaryOf c s.view = s.self := by
     unfold waits at hw
     simp only [Classical.not_not] at hw
     rcases hw with h | h
     ·exact absurd h h3
     ·exact h
    have h1' := eq_true h1.1
    have hp' := eq_true h1.2.symm
    rw [if_neg hw]
    simp only [ne_eq, show ¬ (90 : Int) = 0 by decide, not_false_eq_true, if_true]
    simp [T, xf_ref11_Suspect, k1, pr, h3', h1', hp', zeroS]
 ·rw [if_pos he, if_pos he, if_pos he]
  generalize stateErr c s = SE at *
  simp [T, xf_ref11_Suspect, k1, he, zeroS]
end Go.Ax
namespace Go.Ax
set_option linter.all false
variable {n d : Nat}
set_option maxRecDepth 10000
set_option linter.unusedSimpArgs false
set_option maxHeartbeats 16000000
theorem agL_small {c : Cfg} {s : State} (hs : Small2 s) : SmallL (agL c s) := by
 unfold agL
 split
 ·exact SmallL.nil
 ·obtain ⟨⟨a1, a2⟩, a3⟩ := SmallL.all (c := c) (m := svcM s.view) hs (svc_small3 s.view)
  obtain ⟨b1, b2⟩ := ballL_small (c := c) hs
  split
  ·refine ⟨by rw [List.length_append]; omega, fun x hx => ?_⟩
   rcases List.mem_append.1 hx with hx | hx
   ·exact a2 x hx
   ·exact b2 x hx
  ·rw [List.append_nil]; exact ⟨a1, a2⟩
theorem sus_small {c : Cfg} {s : State} (hs : Small2 s) : Small2 (susS c s) ∧ SmallL (susL c s) := by
 unfold susS susL
 constructor
 ·split
  ·exact zeroS_small2
  ·split
   ·exact go_small2 hs _
   ·exact hs
 ·split
  ·exact SmallL.nil
  ·split
   ·exact (SmallL.all (go_small2 hs _) (svc_small3 _)).1
   ·exact SmallL.nil
theorem e_change_Again (c : Cfg) (s : State) (hs : Small2 s) (hn : 2097157 < n) :
  runFn T n (d + 9) 20 [.dat (encCfg c), .dat (encS s)] [] = some (.tup [.dat (encSds (agL c s)), .dat (di (agErr c s))], []) := by
 have k1 := e_core_Check (n := n) (d := d + 3) c s hs.toSmall (by omega)
 have pr := e_core_Primary (n := n) (d := d + 3) c s.view
 have U49 := fun k a H => runFn_succ (n := n) T k 49 a H
 have U50 := fun k a H => runFn_succ (n := n) T k 50 a H
 have U51 := fun k a H => runFn_succ (n := n) T k 51 a H
 have U82 := fun k a H => runFn_succ (n := n) T k 82 a H
 have U83 := fun k a H => runFn_succ (n := n) T k 83 a H
 unfold agL agErr
 by_cases he : stateErr c s = 0
 ·rw [he] at k1
  rw [if_neg (show ¬ stateErr c s ≠ 0 by simp [he])]
  by_cases h2 : s.status = 2
  ·have h2' := eq_true h2
   rw [if_pos h2]
   simp only [ne_eq, not_true_eq_false, if_false]
   have a1 := e_core_All (n := n) (d := d + 1) c s (svcM s.view) hs (svc_small3 s.view) (by omega)
   rw [show (if stateErr c s = 0 then allS c s (svcM s.view) else []) = allR c s (svcM s.view) from rfl] at a1
   have hal := (SmallL.all (c := c) (m := svcM s.view) hs (svc_small3 s.view)).2
   generalize allR c s (svcM s.view) = L at *
   have hL1 : L.length ≤ LIM := by simp only [LIM]; omega
   have hL2 : L.length + 1 ≤ LIM := by simp only [LIM]; omega
   have hz : (⟨#[]⟩ : ByteArray) = ByteArray.empty := rfl
   have o1 := e_core_One (n := n) (d := d) c s (primaryOf c s.view) (dvcM s) hs (dvc_small3 hs) (by omega)
   simp [svcM, zeroM, encM, cellsM, encLog, encV] at a1
   unfold ballL
   generalize oneS c s (primaryOf c s.view) (dvcM s) = X at *
   simp [dvcM, zeroM, encM, cellsM, encLog, encV] at o1
   rw [runFn_succ]
   by_cases b1 : c.f ≤ s.marks.length
   ·rw [if_pos b1]
    by_cases hp : primaryOf c s.view = s.self
    ·rw [if_pos hp]
     rw [hp] at pr
     simp (maxSteps := 1000000) [T, xf_change_Again, xf_change_frame_all, xf_change_frame_ballot, xf_change_frame_primary, xf_tally_Marked, U49, U50, U51, U82, k1, pr, h2', a1, hL1, hz, b1]
    ·rw [if_neg hp]
     have hp' := eq_false hp
     simp (maxSteps := 1000000) [T, xf_change_Again, xf_change_frame_all, xf_change_frame_ballot, xf_change_frame_primary, xf_change_frame_one, xf_tally_Marked, U49, U50, U51, U82, U83, k1, pr, h2', a1, hL1, hL2, hz, b1, hp', o1]
     exact List.take_of_length_le (by simp)
   ·rw [if_neg b1]
    simp (maxSteps := 1000000) [T, xf_change_Again, xf_change_frame_all, xf_tally_Marked, U49, U50, k1, h2', a1, hL1, hz, b1]
  ·have h2' := eq_false h2
   rw [if_neg h2, if_pos (show (90 : Int) ≠ 0 by decide)]
   rw [runFn_succ]
   simp [T, xf_change_Again, k1, h2']
 ·rw [if_pos he, if_pos he]
  generalize stateErr c s = SE at *
  rw [runFn_succ]
  simp [T, xf_change_Again, k1, he]
theorem e_ref11_Again (c : Cfg) (s : State) (hs : Small2 s) (hn : 2097157 < n) :
  runFn T n (d + 10) 21 [.dat (encCfg c), .dat (encS s)] [] = some (.tup [.dat (encSds (agL c s)), .dat (di (agErr c s))], []) := by
 have k1 := e_ref09_Check (n := n) (d := d + 2) c s hs.toSmall (by omega)
 unfold agL agErr
 by_cases he : stateErr c s = 0
 ·rw [he] at k1
  rw [if_neg (show ¬ stateErr c s ≠ 0 by simp [he])]
  by_cases h2 : s.status = 2
  ·have h2' := eq_true h2
   rw [if_pos h2]
   simp only [ne_eq, not_true_eq_false, if_false]
   have a1 := eo_ref09_All (n := n) (d := d + 1) c s (svcM s.view) hs (svc_small3 s.view) (by omega) he
   have hal := allS_len' (c := c) (s := s) (m := svcM s.view)
   rw [show allR c s (svcM s.view) = allS c s (svcM s.view) from if_pos he]
   have bal := e_ref11_ballot (n := n) (d := d) c s hs (by omega)
   have hbl := (ballL_small (c := c) hs).1
   generalize allS c s (svcM s.view) = L at *
   generalize ballL c s = BL at *
   have hBL : L.length + BL.length ≤ LIM := by simp only [LIM]; omega
   have hz : (⟨#[]⟩ : ByteArray) = ByteArray.empty := rfl
   simp [svcM, zeroM, encM, cellsM, encLog, encV] at a1
   rw [runFn_succ]
   by_cases b1 : c.f ≤ s.marks.length
   ·rw [if_pos b1]
    simp (maxSteps := 1000000) [T, xf_ref11_Again, k1, h2', a1, hz, b1, bal, hBL]
    exact List.take_of_length_le (by simp)
   ·rw [if_neg b1]
    simp (maxSteps := 1000000) [T, xf_ref11_Again, k1, h2', a1, hz, b1]
  ·have h2' := eq_false h2
   rw [if_neg h2, if_pos (show (90 : Int) ≠ 0 by decide)]
   rw [runFn_succ]
   simp [T, xf_ref11_Again, k1, h2']
 ·rw [if_pos he, if_pos he]
  generalize stateErr c s = SE at *
  rw [runFn_succ]
  simp [T, xf_ref11_Again, k1, he]
theorem law_ChangeSuspects (c : Cfg) (s : State) (hs : Small2 s) (hn : 2097157 < n) (hal : ∃ H, runFn T n (d + 14) 13 [] [] = some (.dat (.bool true), H)) :
  ∃ H, runFn T n (d + 15) 6 [.dat (encCfg c), .dat (encS s)] [] = some (.dat (.bool true), H) := by
 have g := e_Given_State (n := n) (d := d + 11) s hs (by omega)
 have o1 := e_change_Suspect (n := n) (d := d + 5) c s hs hn
 have o2 := e_ref11_Suspect (n := n) (d := d + 4) c s hs hn
 have o3 := e_change_Again (n := n) (d := d + 5) c s hs hn
 have o4 := e_ref11_Again (n := n) (d := d + 4) c s hs hn
 obtain ⟨sm1, sm2⟩ := sus_small (c := c) hs
 have sm3 := agL_small (c := c) hs
 have s1 := e_same11 (n := n) (d := d + 10) (susS c s) (susL c s) (susErr c s) sm1.toSmall sm2 (by omega)
 have s2 := e_num11 (n := n) (d := d + 13) (agErr c s)
 have s3 := e_plain_SameSends (n := n) (d := d + 11) (agL c s) (by have := sm3.1; omega) sm3.2 (by omega)
 have hin := e_Intact1 (n := n) (d := d + 10) s hs (by omega)
 unfold givAV givH at g
 generalize susS c s = X at o1 o2 s1
 generalize susL c s = L at o1 o2 s1
 generalize susErr c s = K at o1 o2 s1
 generalize agL c s = L2 at o3 o4 s3
 generalize agErr c s = K2 at o3 o4 s2
 obtain ⟨AH, hal⟩ := hal
 rw [runFn_succ]
 simp [T, xf_law11_ChangeSuspects, g, o1, o2, o3, o4, s1, s2, s3, hin, hal]
end Go.Ax
