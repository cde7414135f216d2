/-
  The document's Start, evaluated.
-/
import Derived.Test.YtlmbnpajipfkaaaGreatDoorQG
import Derived.Test.YtlmbnpajipfkaaaGreatDoorVL
import Derived.Test.YtlmbnpajipfkaaaGreatDoorPA
import Derived.Test.YtlmbnpajipfkaaaGreatDoorH6
import Derived.Test.YtlmbnpajipfkaaaGreatDoorH7
import Derived.Test.YtlmbnpajipfkaaaGreatDoorEH
import Derived.Test.YtlmbnpajipfkaaaGreatDoorMF
import Derived.Test.YtlmbnpajipfkaaaGreatDoorED
namespace Go.Ax
set_option linter.all false
variable {n d : Nat}
set_option maxRecDepth 10000
set_option linter.unusedSimpArgs false
set_option maxHeartbeats 16000000
end Go.Ax
namespace Go.Ax
set_option linter.all false
variable {n d : Nat}
set_option maxRecDepth 10000
set_option linter.unusedSimpArgs false
set_option maxHeartbeats 16000000
end Go.Ax
namespace Go.Ax
set_option linter.all false
variable {n d : Nat}
set_option maxRecDepth 10000
set_option linter.unusedSimpArgs false
set_option maxHeartbeats 16000000
end Go.Ax
namespace Go.Ax
set_option linter.all false
variable {n d : Nat}
set_option maxRecDepth 10000
set_option linter.unusedSimpArgs false
set_option maxHeartbeats 16000000
theorem inst_small2 {t : State} (h : Small2 t) {m : Msg} (hm : SmallM m) : Small2 (instS t m) :=
 ⟨⟨by have := hm.log; simp only [instS]; omega, h.vector, by simp [instS], by simp [instS], by simp [instS], by simp [instS], by simp [instS], by simp [instS]⟩, hm.log, h.vector2, by simp [instS], by simp [instS]⟩
end Go.Ax
namespace Go.Ax
set_option linter.all false
variable {n d : Nat}
set_option maxRecDepth 10000
set_option linter.unusedSimpArgs false
set_option maxHeartbeats 8000000
theorem start_small {c : Cfg} {t : State} {m : Msg} (h : Small2 t) (hok : stateErr c t = 0) : Small2 (startS c t m) := by
 have h1 := first_small (c := c) (m := m) h
 have h2 := first_short (m := m) hok
 have h3 : (putMark (firstS2 c t m).marks (markOf t m.node)).length ≤ (firstS2 c t m).marks.length + 1 := putL_length _ _ _ _
 exact ⟨⟨h1.log, h1.vector, h1.acks, by unfold startS; simp only; omega, h1.ballots, h1.answers, h1.blogs, h1.alogs⟩, h1.log2, h1.vector2, h1.blogs2, h1.alogs2⟩
theorem startL_small {c : Cfg} {t : State} {m : Msg} (h : Small2 t) (hok : stateErr c t = 0) : SmallL (startL c t m) := by
 obtain ⟨⟨a1, a2⟩, a3⟩ := firstL_small (c := c) (m := m) h
 obtain ⟨b1, b2⟩ := ballL_small (c := c) (start_small (m := m) h hok)
 unfold startL
 split
 ·refine ⟨by rw [List.length_append]; omega, fun x hx => ?_⟩
  rcases List.mem_append.1 hx with hx | hx
  ·exact a2 x hx
  ·exact b2 x hx
 ·simpa using ⟨a1, a2⟩
theorem call6_small {c : Cfg} {s : State} {m : Msg} (hs : Small2 s) : Small2 (callS 6 c s m) ∧ SmallL (callL 6 c s m) := by
 refine call_small hs fun _ ho h2 => ?_
 unfold stepS stepL
 split
 ·exact ⟨h2, SmallL.nil⟩
 ·rw [if_pos rfl, if_pos rfl]
  exact ⟨start_small h2 ho, startL_small h2 ho⟩
theorem e_change_Start (c : Cfg) (s : State) (m : Msg) (hs : Small2 s) (hm : SmallM m) (hN : ∀ x ∈ s.vector, Nn x) (hn : 2097157 < n) :
  runFn T n (d + 12) 9 [.dat (encCfg c), .dat (encS s), .dat (encM m)] [] = some (.tup [.dat (encS (callS 6 c s m)), .dat (encSds (callL 6 c s m)), .dat (di (kErr c s m 6))], []) := by
 have h := e_handle6 (n := n) (d := d) c s m hs hm hN hn
 rw [runFn_succ]
 simp [T, xf_change_Start, h]
end Go.Ax
namespace Go.Ax
set_option linter.all false
variable {n d : Nat}
set_option maxRecDepth 10000
set_option linter.unusedSimpArgs false
set_option maxHeartbeats 8000000
theorem carry_small2 {s : State} (hs : Small2 s) (c : Cfg) (to : Int) : Small2 (carryS c s to) := by
 unfold carryS
 split
 ·exact zeroS_small2
 ·split
  ·exact hs
  ·exact ⟨⟨hs.log, hs.vector, hs.acks, hs.marks, hs.ballots, hs.answers, hs.blogs, hs.alogs⟩, hs.log2, hs.vector2, hs.blogs2, hs.alogs2⟩
theorem carryL_len (c : Cfg) (s : State) (to : Int) : (carryL c s to).length ≤ 256 := by
 unfold carryL
 split
 ·simp
 ·rename_i he
  split
  ·simp
  ·split
   ·split
    ·have hz : carryErr c s to = 0 := by omega
     unfold carryErr at hz
     have h0 : stateErr c s = 0 := by
      by_cases h0 : stateErr c s = 0
      ·exact h0
      ·rw [if_pos h0] at hz; exact absurd hz h0
     rw [if_neg (by simp [h0])] at hz
     obtain ⟨f1, f2, f3, f4⟩ := log_facts h0
     have hto : 0 ≤ to ∧ to ≤ s.log.length := by
      by_cases hq : to < 0 ∨ (s.log.length : Int) < to
      ·rw [if_pos hq] at hz; cases hz
      ·omega
     have hR := carry_rows (s := s) f1 f2 hto
     rw [List.length_map]; omega
    ·simp
   ·simp
theorem SmallL.app {a b : List Send} (ha : SmallL a) (hb : SmallL b) (h : a.length + b.length ≤ 1000) : SmallL (a ++ b) := by
 refine ⟨by rw [List.length_append]; omega, fun x hx => ?_⟩
 rcases List.mem_append.1 hx with hx | hx
 ·exact ha.2 x hx
 ·exact hb.2 x hx
theorem carryL_smallL (c : Cfg) (s : State) (to : Int) : SmallL (carryL c s to) := ⟨by have := carryL_len c s to; omega, (carryL_small c s to).2⟩
theorem lead_small {c : Cfg} {u : State} (hs : Small2 u) : Small2 (leadS c u) ∧ SmallL (leadL c u) ∧ (leadL c u).length ≤ 356 := by
 have hl := best_log hs (ownBal u) rfl
 have h1 := ledS0_small (u := u) hs hl
 obtain ⟨a1, a2⟩ := SmallL.all (c := c) (m := svM u (bestP (ownBal u) u.ballots).log (chosen (ownBal u) u.ballots)) h1 (sv_small hl)
 have b1 := carryL_smallL c (ledS0 u (bestP (ownBal u) u.ballots).log) (chosen (ownBal u) u.ballots)
 have b2 := carryL_len c (ledS0 u (bestP (ownBal u) u.ballots).log) (chosen (ownBal u) u.ballots)
 refine ⟨carry_small2 h1 c _, a1.app b1 (by omega), ?_⟩
 unfold leadL
 rw [List.length_append]
 omega
theorem call7_small {c : Cfg} {s : State} {m : Msg} (hs : Small2 s) (hm : SmallM m) : Small2 (callS 7 c s m) ∧ SmallL (callL 7 c s m) := by
 unfold callS callL
 by_cases hk : kErr c s m 7 = 0
 ·obtain ⟨he, hkd, hme⟩ := kErr_zero hk
  simp only [hk, ne_eq, not_true_eq_false, if_false]
  have hok := admS_ok he hme
  have hsm := hs.adm he hme
  have hsf := admS_self he hme
  by_cases hB : admB c s m = false
  ·rw [if_pos hB, if_pos hB]; exact ⟨hsm, SmallL.nil⟩
  ·rw [if_neg hB, if_neg hB]
   have hne : m.node ≠ (admS c s m).self := by rw [hsf]; exact admB_node (by simpa using hB) (between_kind hkd (by omega))
   generalize admS c s m = t at *
   unfold stepS stepL
   by_cases h : t.status = 3 ∨ stale t m
   ·rw [if_pos h, if_pos h]; exact ⟨hsm, SmallL.nil⟩
   ·rw [if_neg h, if_neg h, if_neg (show ¬ (7 : Int) = 6 by decide), if_neg (show ¬ (7 : Int) = 6 by decide), if_pos rfl, if_pos rfl]
    have vo := vote_ok (c := c) hsm hm hok hne
    obtain ⟨l1, l2, l3⟩ := lead_small (c := c) vo.small
    obtain ⟨f1, f2⟩ := firstL_small (c := c) (m := m) hsm
    unfold votedS votedL
    by_cases hp : primaryOf c (firstS2 c t m).view ≠ t.self
    ·rw [if_pos hp, if_pos hp, List.append_nil]; exact ⟨first_small hsm, f1⟩
    ·rw [if_neg hp, if_neg hp]
     by_cases hf : c.f ≤ (voteS c t m).ballots.length
     ·rw [if_pos hf, if_pos hf]; exact ⟨l1, f1.app l2 (by omega)⟩
     ·rw [if_neg hf, if_neg hf, List.append_nil]; exact ⟨vo.small, f1⟩
 ·rw [if_pos hk, if_pos hk]
  exact ⟨zeroS_small2, SmallL.nil⟩
theorem e_change_Vote (c : Cfg) (s : State) (m : Msg) (hs : Small2 s) (hm : SmallM m) (hN : ∀ x ∈ s.vector, Nn x) (hn : 2097157 < n) :
  runFn T n (d + 12) 12 [.dat (encCfg c), .dat (encS s), .dat (encM m)] [] = some (.tup [.dat (encS (callS 7 c s m)), .dat (encSds (callL 7 c s m)), .dat (di (kErr c s m 7))], []) := by
 have h := e_handle7 (n := n) (d := d) c s m hs hm hN hn
 rw [runFn_succ]
 simp [T, xf_change_Vote, h]
end Go.Ax
namespace Go.Ax
set_option linter.all false
variable {n d : Nat}
set_option maxRecDepth 10000
set_option linter.unusedSimpArgs false
set_option maxHeartbeats 8000000
theorem call8_small {c : Cfg} {s : State} {m : Msg} (hs : Small2 s) (hm : SmallM m) : Small2 (callS 8 c s m) ∧ SmallL (callL 8 c s m) := by
 refine call_small hs fun _ ho h2 => ?_
 have hi := inst_small2 h2 (m := m) hm
 unfold stepS stepL
 split
 ·exact ⟨h2, SmallL.nil⟩
 ·rw [if_neg (show ¬ (8 : Int) = 6 by decide), if_neg (show ¬ (8 : Int) = 6 by decide), if_neg (show ¬ (8 : Int) = 7 by decide), if_neg (show ¬ (8 : Int) = 7 by decide)]
  refine ⟨hi, ?_⟩
  unfold instL
  split
  ·refine ⟨by simp, fun x hx => ?_⟩
   rw [List.mem_singleton.1 hx]
   exact oneS_small hi ⟨by simp [pokM, zeroM], by simp [pokM, zeroM]⟩
  ·exact SmallL.nil
theorem e_change_Install (c : Cfg) (s : State) (m : Msg) (hs : Small2 s) (hm : SmallM m) (hN : ∀ x ∈ s.vector, Nn x) (hn : 2097157 < n) :
  runFn T n (d + 12) 13 [.dat (encCfg c), .dat (encS s), .dat (encM m)] [] = some (.tup [.dat (encS (callS 8 c s m)), .dat (encSds (callL 8 c s m)), .dat (di (kErr c s m 8))], []) := by
 have h := e_handle8 (n := n) (d := d) c s m hs hm hN hn
 rw [runFn_succ]
 simp [T, xf_change_Install, h]
end Go.Ax
namespace Go.Ax
set_option linter.all false
variable {n d : Nat}
set_option maxRecDepth 10000
set_option linter.unusedSimpArgs false
set_option maxHeartbeats 16000000
end Go.Ax
namespace Go.Ax
set_option linter.all false
variable {n d : Nat}
set_option maxRecDepth 10000
set_option linter.unusedSimpArgs false
set_option maxHeartbeats 16000000
theorem agL_small {c : Cfg} {s : State} (hs : Small2 s) : SmallL (agL c s) := by
 unfold agL
 split
 ·exact SmallL.nil
 ·obtain ⟨⟨a1, a2⟩, a3⟩ := SmallL.all (c := c) (m := svcM s.view) hs (svc_small3 s.view)
  obtain ⟨b1, b2⟩ := ballL_small (c := c) hs
  split
  ·refine ⟨by rw [List.length_append]; omega, fun x hx => ?_⟩
   rcases List.mem_append.1 hx with hx | hx
   ·exact a2 x hx
   ·exact b2 x hx
  ·rw [List.append_nil]; exact ⟨a1, a2⟩
theorem sus_small {c : Cfg} {s : State} (hs : Small2 s) : Small2 (susS c s) ∧ SmallL (susL c s) := by
 unfold susS susL
 constructor
 ·split
  ·exact zeroS_small2
  ·split
   ·exact go_small2 hs _
   ·exact hs
 ·split
  ·exact SmallL.nil
  ·split
   ·exact (SmallL.all (go_small2 hs _) (svc_small3 _)).1
   ·exact SmallL.nil
theorem e_change_Again (c : Cfg) (s : State) (hs : Small2 s) (hn : 2097157 < n) :
  runFn T n (d + 9) 11 [.dat (encCfg c), .dat (encS s)] [] = some (.tup [.dat (encSds (agL c s)), .dat (di (agErr c s))], []) := by
 have k1 := e_core_Check (n := n) (d := d + 3) c s hs.toSmall (by omega)
 have pr := e_core_Primary (n := n) (d := d + 3) c s.view
 have U49 := fun k a H => runFn_succ (n := n) T k 23 a H
 have U50 := fun k a H => runFn_succ (n := n) T k 24 a H
 have U51 := fun k a H => runFn_succ (n := n) T k 25 a H
 have U82 := fun k a H => runFn_succ (n := n) T k 42 a H
 have U83 := fun k a H => runFn_succ (n := n) T k 43 a H
 unfold agL agErr
 by_cases he : stateErr c s = 0
 ·rw [he] at k1
  rw [if_neg (show ¬ stateErr c s ≠ 0 by simp [he])]
  by_cases h2 : s.status = 2
  ·have h2' := eq_true h2
   rw [if_pos h2]
   simp only [ne_eq, not_true_eq_false, if_false]
   have a1 := e_core_All (n := n) (d := d + 1) c s (svcM s.view) hs (svc_small3 s.view) (by omega)
   rw [show (if stateErr c s = 0 then allS c s (svcM s.view) else []) = allR c s (svcM s.view) from rfl] at a1
   have hal := (SmallL.all (c := c) (m := svcM s.view) hs (svc_small3 s.view)).2
   generalize allR c s (svcM s.view) = L at *
   have hL1 : L.length ≤ LIM := by simp only [LIM]; omega
   have hL2 : L.length + 1 ≤ LIM := by simp only [LIM]; omega
   have hz : (⟨#[]⟩ : ByteArray) = ByteArray.empty := rfl
   have o1 := e_core_One (n := n) (d := d) c s (primaryOf c s.view) (dvcM s) hs (dvc_small3 hs) (by omega)
   simp [svcM, zeroM, encM, cellsM, encLog, encV] at a1
   unfold ballL
   generalize oneS c s (primaryOf c s.view) (dvcM s) = X at *
   simp [dvcM, zeroM, encM, cellsM, encLog, encV] at o1
   rw [runFn_succ]
   by_cases b1 : c.f ≤ s.marks.length
   ·rw [if_pos b1]
    by_cases hp : primaryOf c s.view = s.self
    ·rw [if_pos hp]
     rw [hp] at pr
     simp (maxSteps := 1000000) [T, xf_change_Again, xf_change_frame_all, xf_change_frame_ballot, xf_change_frame_primary, xf_tally_Marked, U49, U50, U51, U82, k1, pr, h2', a1, hL1, hz, b1]
    ·rw [if_neg hp]
     have hp' := eq_false hp
     simp (maxSteps := 1000000) [T, xf_change_Again, xf_change_frame_all, xf_change_frame_ballot, xf_change_frame_primary, xf_change_frame_one, xf_tally_Marked, U49, U50, U51, U82, U83, k1, pr, h2', a1, hL1, hL2, hz, b1, hp', o1]
     exact List.take_of_length_le (by simp)
   ·rw [if_neg b1]
    simp (maxSteps := 1000000) [T, xf_change_Again, xf_change_frame_all, xf_tally_Marked, U49, U50, k1, h2', a1, hL1, hz, b1]
  ·have h2' := eq_false h2
   rw [if_neg h2, if_pos (show (90 : Int) ≠ 0 by decide)]
   rw [runFn_succ]
   simp [T, xf_change_Again, k1, h2']
 ·rw [if_pos he, if_pos he]
  generalize stateErr c s = SE at *
  rw [runFn_succ]
  simp [T, xf_change_Again, k1, he]
end Go.Ax
namespace Go.Ax
set_option linter.all false
variable {n d : Nat}
set_option maxRecDepth 10000
set_option linter.unusedSimpArgs false
set_option maxHeartbeats 4000000
def c3 : Cfg := ⟨1, 4, 6, false⟩
end Go.Ax
namespace Go.Ax
set_option linter.all false
variable {n d : Nat}
set_option maxRecDepth 10000
set_option linter.unusedSimpArgs false
set_option maxHeartbeats 8000000
abbrev boxOw (s : State) : Blk := .box [.dat (di s.self), .dat (di s.status), .dat (di s.view), .dat (di s.last), .own 3 0 s.log.length, .dat (di s.commit), .own 4 0 s.vector.length, .dat (di s.idle), .own 5 0 s.acks.length, .own 6 0 s.marks.length, .own 7 0 s.ballots.length, .own 8 0 s.answers.length]
abbrev HO (c : Cfg) (s now : State) (z : Bool) : List Blk := [boxC c, boxS s, boxOw now, .arr 50 5 true z (now.log.map encE), .arr 55 2 true z (now.vector.map encD), .arr 83 4 true z (now.acks.map encAck), .arr 108 3 true z (now.marks.map encMark), .arr 85 6 false z (now.ballots.map encBal), .arr 110 6 false z (now.answers.map encAns)]
abbrev HD (c : Cfg) (s now : State) : List Blk := [boxC c, boxS s, boxS now]
end Go.Ax
