/-
  The document's Start, evaluated.
-/
import Derived.Test.YtfahaejohbmbpaaGreatDoorQG
import Derived.Test.YtfahaejohbmbpaaGreatDoorVL
import Derived.Test.YtfahaejohbmbpaaGreatDoorPA
import Derived.Test.YtfahaejohbmbpaaGreatDoorH6
import Derived.Test.YtfahaejohbmbpaaGreatDoorH7
import Derived.Test.YtfahaejohbmbpaaGreatDoorEH
import Derived.Test.YtfahaejohbmbpaaGreatDoorMF
import Derived.Test.YtfahaejohbmbpaaGreatDoorED
import Derived.Test.YtfahaejohbmbpaaGreatDoorSP
namespace Go.Ax
set_option linter.all false
variable {n d : Nat}
set_option maxRecDepth 10000
set_option linter.unusedSimpArgs false
set_option maxHeartbeats 16000000
end Go.Ax
namespace Go.Ax
set_option linter.all false
variable {n d : Nat}
set_option maxRecDepth 10000
set_option linter.unusedSimpArgs false
set_option maxHeartbeats 16000000
end Go.Ax
namespace Go.Ax
set_option linter.all false
variable {n d : Nat}
set_option maxRecDepth 10000
set_option linter.unusedSimpArgs false
set_option maxHeartbeats 16000000
end Go.Ax
namespace Go.Ax
set_option linter.all false
variable {n d : Nat}
set_option maxRecDepth 10000
set_option linter.unusedSimpArgs false
set_option maxHeartbeats 16000000
theorem inst_small2 {t : State} (h : Small2 t) {m : Msg} (hm : SmallM m) : Small2 (instS t m) :=
 ⟨⟨by have := hm.log; simp only [instS]; omega, h.vector, by simp [instS], by simp [instS], by simp [instS], by simp [instS], by simp [instS], by simp [instS]⟩, hm.log, h.vector2, by simp [instS], by simp [instS]⟩
end Go.Ax
namespace Go.Ax
set_option linter.all false
variable {n d : Nat}
set_option maxRecDepth 10000
set_option linter.unusedSimpArgs false
set_option maxHeartbeats 8000000
theorem start_small {c : Cfg} {t : State} {m : Msg} (h : Small2 t) (hok : stateErr c t = 0) : Small2 (startS c t m) := by
 have h1 := first_small (c := c) (m := m) h
 have h2 := first_short (m := m) hok
 have h3 : (putMark (firstS2 c t m).marks (markOf t m.node)).length ≤ (firstS2 c t m).marks.length + 1 := putL_length _ _ _ _
 exact ⟨⟨h1.log, h1.vector, h1.acks, by unfold startS; simp only; omega, h1.ballots, h1.answers, h1.blogs, h1.alogs⟩, h1.log2, h1.vector2, h1.blogs2, h1.alogs2⟩
theorem startL_small {c : Cfg} {t : State} {m : Msg} (h : Small2 t) (hok : stateErr c t = 0) : SmallL (startL c t m) := by
 obtain ⟨⟨a1, a2⟩, a3⟩ := firstL_small (c := c) (m := m) h
 obtain ⟨b1, b2⟩ := ballL_small (c := c) (start_small (m := m) h hok)
 unfold startL
 split
 ·refine ⟨by rw [List.length_append]; omega, fun x hx => ?_⟩
  rcases List.mem_append.1 hx with hx | hx
  ·exact a2 x hx
  ·exact b2 x hx
 ·simpa using ⟨a1, a2⟩
theorem call6_small {c : Cfg} {s : State} {m : Msg} (hs : Small2 s) : Small2 (callS 6 c s m) ∧ SmallL (callL 6 c s m) := by
 refine call_small hs fun _ ho h2 => ?_
 unfold stepS stepL
 split
 ·exact ⟨h2, SmallL.nil⟩
 ·rw [if_pos rfl, if_pos rfl]
  exact ⟨start_small h2 ho, startL_small h2 ho⟩
theorem e_change_Start (c : Cfg) (s : State) (m : Msg) (hs : Small2 s) (hm : SmallM m) (hN : ∀ x ∈ s.vector, Nn x) (hn : 2097157 < n) :
  runFn T n (d + 12) 21 [.dat (encCfg c), .dat (encS s), .dat (encM m)] [] = some (.tup [.dat (encS (callS 6 c s m)), .dat (encSds (callL 6 c s m)), .dat (di (kErr c s m 6))], []) := by
 have h := e_handle6 (n := n) (d := d) c s m hs hm hN hn
 rw [runFn_succ]
 simp [T, xf_change_Start, h]
end Go.Ax
namespace Go.Ax
set_option linter.all false
variable {n d : Nat}
set_option maxRecDepth 10000
set_option linter.unusedSimpArgs false
set_option maxHeartbeats 8000000
theorem carry_small2 {s : State} (hs : Small2 s) (c : Cfg) (to : Int) : Small2 (carryS c s to) := by
 unfold carryS
 split
 ·exact zeroS_small2
 ·split
  ·exact hs
  ·exact ⟨⟨hs.log, hs.vector, hs.acks, hs.marks, hs.ballots, hs.answers, hs.blogs, hs.alogs⟩, hs.log2, hs.vector2, hs.blogs2, hs.alogs2⟩
theorem carryL_len (c : Cfg) (s : State) (to : Int) : (carryL c s to).length ≤ 256 := by
 unfold carryL
 split
 ·simp
 ·rename_i he
  split
  ·simp
  ·split
   ·split
    ·have hz : carryErr c s to = 0 := by omega
     unfold carryErr at hz
     have h0 : stateErr c s = 0 := by
      by_cases h0 : stateErr c s = 0
      ·exact h0
      ·rw [if_pos h0] at hz; exact absurd hz h0
     rw [if_neg (by simp [h0])] at hz
     obtain ⟨f1, f2, f3, f4⟩ := log_facts h0
     have hto : 0 ≤ to ∧ to ≤ s.log.length := by
      by_cases hq : to < 0 ∨ (s.log.length : Int) < to
      ·rw [if_pos hq] at hz; cases hz
      ·omega
     have hR := carry_rows (s := s) f1 f2 hto
     rw [List.length_map]; omega
    ·simp
   ·simp
theorem SmallL.app {a b : List Send} (ha : SmallL a) (hb : SmallL b) (h : a.length + b.length ≤ 1000) : SmallL (a ++ b) := by
 refine ⟨by rw [List.length_append]; omega, fun x hx => ?_⟩
 rcases List.mem_append.1 hx with hx | hx
 ·exact ha.2 x hx
 ·exact hb.2 x hx
theorem carryL_smallL (c : Cfg) (s : State) (to : Int) : SmallL (carryL c s to) := ⟨by have := carryL_len c s to; omega, (carryL_small c s to).2⟩
theorem lead_small {c : Cfg} {u : State} (hs : Small2 u) : Small2 (leadS c u) ∧ SmallL (leadL c u) ∧ (leadL c u).length ≤ 356 := by
 have hl := best_log hs (ownBal u) rfl
 have h1 := ledS0_small (u := u) hs hl
 obtain ⟨a1, a2⟩ := SmallL.all (c := c) (m := svM u (bestP (ownBal u) u.ballots).log (chosen (ownBal u) u.ballots)) h1 (sv_small hl)
 have b1 := carryL_smallL c (ledS0 u (bestP (ownBal u) u.ballots).log) (chosen (ownBal u) u.ballots)
 have b2 := carryL_len c (ledS0 u (bestP (ownBal u) u.ballots).log) (chosen (ownBal u) u.ballots)
 refine ⟨carry_small2 h1 c _, a1.app b1 (by omega), ?_⟩
 unfold leadL
 rw [List.length_append]
 omega
theorem call7_small {c : Cfg} {s : State} {m : Msg} (hs : Small2 s) (hm : SmallM m) : Small2 (callS 7 c s m) ∧ SmallL (callL 7 c s m) := by
 unfold callS callL
 by_cases hk : kErr c s m 7 = 0
 ·obtain ⟨he, hkd, hme⟩ := kErr_zero hk
  simp only [hk, ne_eq, not_true_eq_false, if_false]
  have hok := admS_ok he hme
  have hsm := hs.adm he hme
  have hsf := admS_self he hme
  by_cases hB : admB c s m = false
  ·rw [if_pos hB, if_pos hB]; exact ⟨hsm, SmallL.nil⟩
  ·rw [if_neg hB, if_neg hB]
   have hne : m.node ≠ (admS c s m).self := by rw [hsf]; exact admB_node (by simpa using hB) (between_kind hkd (by omega))
   generalize admS c s m = t at *
   unfold stepS stepL
   by_cases h : t.status = 3 ∨ stale t m
   ·rw [if_pos h, if_pos h]; exact ⟨hsm, SmallL.nil⟩
   ·rw [if_neg h, if_neg h, if_neg (show ¬ (7 : Int) = 6 by decide), if_neg (show ¬ (7 : Int) = 6 by decide), if_pos rfl, if_pos rfl]
    have vo := vote_ok (c := c) hsm hm hok hne
    obtain ⟨l1, l2, l3⟩ := lead_small (c := c) vo.small
    obtain ⟨f1, f2⟩ := firstL_small (c := c) (m := m) hsm
    unfold votedS votedL
    by_cases hp : primaryOf c (firstS2 c t m).view ≠ t.self
    ·rw [if_pos hp, if_pos hp, List.append_nil]; exact ⟨first_small hsm, f1⟩
    ·rw [if_neg hp, if_neg hp]
     by_cases hf : c.f ≤ (voteS c t m).ballots.length
     ·rw [if_pos hf, if_pos hf]; exact ⟨l1, f1.app l2 (by omega)⟩
     ·rw [if_neg hf, if_neg hf, List.append_nil]; exact ⟨vo.small, f1⟩
 ·rw [if_pos hk, if_pos hk]
  exact ⟨zeroS_small2, SmallL.nil⟩
theorem e_change_Vote (c : Cfg) (s : State) (m : Msg) (hs : Small2 s) (hm : SmallM m) (hN : ∀ x ∈ s.vector, Nn x) (hn : 2097157 < n) :
  runFn T n (d + 12) 7 [.dat (encCfg c), .dat (encS s), .dat (encM m)] [] = some (.tup [.dat (encS (callS 7 c s m)), .dat (encSds (callL 7 c s m)), .dat (di (kErr c s m 7))], []) := by
 have h := e_handle7 (n := n) (d := d) c s m hs hm hN hn
 rw [runFn_succ]
 simp [T, xf_change_Vote, h]
end Go.Ax
namespace Go.Ax
set_option linter.all false
variable {n d : Nat}
set_option maxRecDepth 10000
set_option linter.unusedSimpArgs false
set_option maxHeartbeats 8000000
theorem call8_small {c : Cfg} {s : State} {m : Msg} (hs : Small2 s) (hm : SmallM m) : Small2 (callS 8 c s m) ∧ SmallL (callL 8 c s m) := by
 refine call_small hs fun _ ho h2 => ?_
 have hi := inst_small2 h2 (m := m) hm
 unfold stepS stepL
 split
 ·exact ⟨h2, SmallL.nil⟩
 ·rw [if_neg (show ¬ (8 : Int) = 6 by decide), if_neg (show ¬ (8 : Int) = 6 by decide), if_neg (show ¬ (8 : Int) = 7 by decide), if_neg (show ¬ (8 : Int) = 7 by decide)]
  refine ⟨hi, ?_⟩
  unfold instL
  split
  ·refine ⟨by simp, fun x hx => ?_⟩
   rw [List.mem_singleton.1 hx]
   exact oneS_small hi ⟨by simp [pokM, zeroM], by simp [pokM, zeroM]⟩
  ·exact SmallL.nil
theorem e_change_Install (c : Cfg) (s : State) (m : Msg) (hs : Small2 s) (hm : SmallM m) (hN : ∀ x ∈ s.vector, Nn x) (hn : 2097157 < n) :
  runFn T n (d + 12) 27 [.dat (encCfg c), .dat (encS s), .dat (encM m)] [] = some (.tup [.dat (encS (callS 8 c s m)), .dat (encSds (callL 8 c s m)), .dat (di (kErr c s m 8))], []) := by
 have h := e_handle8 (n := n) (d := d) c s m hs hm hN hn
 rw [runFn_succ]
 simp [T, xf_change_Install, h]
end Go.Ax
namespace Go.Ax
set_option linter.all false
variable {n d : Nat}
set_option maxRecDepth 10000
set_option linter.unusedSimpArgs false
set_option maxHeartbeats 16000000
theorem carry0 {c : Cfg} {s : State} (h : stateErr c s = 0) : carryErr c s 0 = 0 ∧ carryS c s 0 = s ∧ carryL c s 0 = [] := by
 obtain ⟨_, _, h0, _⟩ := log_facts h
 have h1 : carryErr c s 0 = 0 := by unfold carryErr; rw [if_neg (by simp [h]), if_neg (by omega)]
 refine ⟨h1, ?_, ?_⟩
 ·unfold carryS; rw [if_neg (by simp [h1]), if_pos h0]
 ·unfold carryL; rw [if_neg (by simp [h1]), if_pos h0]
theorem view_of {c : Cfg} {s : State} (h : stateErr c s = 0) : 0 ≤ s.view ∧ s.view ≤ 4294967296 := by
 rw [stateErr_iff] at h
 obtain ⟨_, hh, _⟩ := h
 simp [headOff] at hh
 omega
theorem e_change_Suspect (c : Cfg) (s : State) (hs : Small2 s) (hn : 2097157 < n) :
  runFn T n (d + 9) 15 [.dat (encCfg c), .dat (encS s)] [] = some (.tup [.dat (encS (susS c s)), .dat (encSds (susL c s)), .dat (di (susErr c s))], []) := by
 have k1 := e_core_Check (n := n) (d := d + 3) c s hs.toSmall (by omega)
 have pr := e_core_Primary (n := n) (d := d + 5) c s.view
 have U47 := fun k a H => runFn_succ (n := n) T k 39 a H
 have U79 := fun k a H => runFn_succ (n := n) T k 51 a H
 have U49 := fun k a H => runFn_succ (n := n) T k 52 a H
 rw [runFn_succ]
 unfold susS susL susErr
 by_cases he : stateErr c s = 0
 ·rw [he] at k1
  rw [if_neg (show ¬ stateErr c s ≠ 0 by simp [he])]
  obtain ⟨y1, y2, y3⟩ := carry0 he
  have ca := e_core_Carry (n := n) (d := d + 2) c s 0 hs.toSmall (by omega)
  rw [y1, y2, y3] at ca
  obtain ⟨vw1, vw2⟩ := view_of he
  by_cases h3 : s.status = 3
  ·have h3' := eq_true h3
   have hw : ¬ waits c s := fun h => h (.inl h3)
   rw [if_neg hw]
   simp only [ne_eq, show ¬ (90 : Int) = 0 by decide, not_false_eq_true, if_true]
   simp [T, xf_change_Suspect, k1, h3', zeroS]
  ·have h3' := eq_false h3
   have tail : waits c s → runFn T n (d + 9) 15 [.dat (encCfg c), .dat (encS s)] [] = some (.tup [.dat (encS (if s.view < 4294967296 then goS s (s.view + 1) else s)), .dat (encSds (if s.view < 4294967296 then goL c s (s.view + 1) else [])), .dat (di 0)], []) := by
    intro hw
    have hgs := go_small2 hs (s.view + 1)
    have a1 := e_core_All (n := n) (d := d) c (goS s (s.view + 1)) (svcM (s.view + 1)) hgs ⟨by simp [svcM, zeroM], by simp [svcM, zeroM]⟩ (by omega)
    have haL : (if stateErr c (goS s (s.view + 1)) = 0 then allS c (goS s (s.view + 1)) (svcM (s.view + 1)) else []) = goL c s (s.view + 1) := rfl
    rw [haL] at a1
    have hgl : (goL c s (s.view + 1)).length ≤ 1048577 := by
     unfold goL allR
     split
     ·exact (allS_small hgs ⟨by simp [svcM, zeroM], by simp [svcM, zeroM]⟩).1
     ·simp
    generalize goL c s (s.view + 1) = L at *
    generalize stateErr c (goS s (s.view + 1)) = SE at *
    have hL1 : L.length ≤ LIM := by simp only [LIM]; omega
    have hz : (⟨#[]⟩ : ByteArray) = ByteArray.empty := rfl
    simp [goS, svcM, zeroM, encM, cellsM, encLog, encV, encS, cellsS, encAcks, encMarks, encBals, encAnss] at a1
    have hwr := wrap_small (x := s.view + 1) (by omega)
    rw [runFn_succ]
    by_cases h1 : s.status = 1
    ·have h1' := eq_true h1
     have hp : ¬ primaryOf c s.view = s.self := fun h => hw (.inr ⟨h1, h⟩)
     have hp' := eq_false hp
     by_cases hv : s.view < 4294967296
     ·rw [if_pos hv, if_pos hv]
      simp (maxSteps := 1000000) [T, xf_change_Suspect, xf_change_frame_goes, xf_change_frame_clear, xf_change_frame_all, U47, U49, U79, k1, pr, ca, a1, h3', h1', hp', hv, hwr, hL1, hz, goS]
     ·rw [if_neg hv, if_neg hv]
      simp (maxSteps := 1000000) [T, xf_change_Suspect, k1, pr, ca, h3', h1', hp', hv]
    ·have h1' := eq_false h1
     by_cases hv : s.view < 4294967296
     ·rw [if_pos hv, if_pos hv]
      simp (maxSteps := 1000000) [T, xf_change_Suspect, xf_change_frame_goes, xf_change_frame_clear, xf_change_frame_all, U47, U49, U79, k1, pr, ca, a1, h3', h1', hv, hwr, hL1, hz, goS]
     ·rw [if_neg hv, if_neg hv]
      simp (maxSteps := 1000000) [T, xf_change_Suspect, k1, pr, ca, h3', h1', hv]
   rw [runFn_succ] at tail
   by_cases hw : waits c s
   ·rw [if_pos hw]
    simp only [ne_eq, not_true_eq_false, if_false]
    exact tail hw
   ·have h1 : s.status = 1 ∧ primaryOf c s.view = s.self := by
     unfold waits at hw
     simp only [Classical.not_not] at hw
     rcases hw with h | h
     ·exact absurd h h3
     ·exact h
    have h1' := eq_true h1.1
    have hp' := eq_true h1.2
    rw [if_neg hw]
    simp only [ne_eq, show ¬ (90 : Int) = 0 by decide, not_false_eq_true, if_true]
    simp [T, xf_change_Suspect, k1, pr, h3', h1', hp', zeroS]
 ·rw [if_pos he, if_pos he, if_pos he]
  generalize stateErr c s = SE at *
  simp [T, xf_change_Suspect, k1, he, zeroS]
end Go.Ax
namespace Go.Ax
set_option linter.all false
variable {n d : Nat}
set_option maxRecDepth 10000
set_option linter.unusedSimpArgs false
set_option maxHeartbeats 16000000
theorem sus_small {c : Cfg} {s : State} (hs : Small2 s) : Small2 (susS c s) ∧ SmallL (susL c s) := by
 unfold susS susL
 constructor
 ·split
  ·exact zeroS_small2
  ·split
   ·exact go_small2 hs _
   ·exact hs
 ·split
  ·exact SmallL.nil
  ·split
   ·exact (SmallL.all (go_small2 hs _) (svc_small3 _)).1
   ·exact SmallL.nil
end Go.Ax
namespace Go.Ax
set_option linter.all false
variable {n d : Nat}
set_option maxRecDepth 10000
set_option linter.unusedSimpArgs false
set_option maxHeartbeats 4000000
def c3 : Cfg := ⟨1, 4, 6, false⟩
end Go.Ax
namespace Go.Ax
set_option linter.all false
variable {n d : Nat}
set_option maxRecDepth 10000
set_option linter.unusedSimpArgs false
set_option maxHeartbeats 8000000
theorem e_Compare_up (a b : List Draw) (h : b.length = a.length) (hl : a.length ≤ 7) (hu : ∀ k, k < a.length → cmp (a.getD k ⟨0, 0⟩) (b.getD k ⟨0, 0⟩) ≤ 0) (hn : 1048577 < n) :
  ∃ r : Int, (r = 1 ∨ r = 2) ∧ runFn T n (d + 2) 17 [.dat (encV a), .dat (encV b)] [] = some (.dat (di r), []) := by
 have hz : (a.zip b).length = a.length := by simp; omega
 have main := loop_fold (body := XCode.run (runFn T n (d + 1)) n 0 xf_vector_Compare_b0) (head := headOf 0 xf_vector_Compare_k0) (fun i (x : Bool) => ⟨[(0, .dat (encV a)), (1, .dat (encV b)), (5, .dat (.bool false)), (6, .dat (.bool x)), (14, .dat (di a.length)), (15, .dat (di i))], []⟩) (fun _ _ => True) (a.zip b)
  (fun x p => x || decide (cmp p.1 p.2 = -1)) (fun x => (.exit 0, ⟨[(5, .dat (.bool false)), (6, .dat (.bool x))], []⟩)) false trivial (fun i x hi _ => ⟨trivial, nextK_some ?_⟩) (fun x _ => ?_) (fun x s h => by cases h) n (by omega)
 ·have hl' : (a.length : Int) = b.length := by omega
  simp [xf_vector_Compare_k0] at main
  generalize List.foldl (fun (x : Bool) (p : Draw × Draw) => x || decide (cmp p.1 p.2 = -1)) false (a.zip b) = R at main
  cases R
  ·refine ⟨1, .inl rfl, ?_⟩
   rw [runFn_succ]
   simp [T, xf_vector_Compare, xf_vector_Compare_k0, h, main]
   try (rw [← h] at main; simp [main])
  ·refine ⟨2, .inr rfl, ?_⟩
   rw [runFn_succ]
   simp [T, xf_vector_Compare, xf_vector_Compare_k0, h, main]
   try (rw [← h] at main; simp [main])
 ·have hia : i < a.length := by omega
  have hib : i < b.length := by omega
  have hia' : (i : Int) < a.length := by omega
  have hib' : (i : Int) < b.length := by omega
  have hw := wrap_i i (by omega)
  have h43 := p43 (n := n) (d := d) a[i] b[i]
  have hu' := hu i hia
  simp only [List.getD, List.getElem?_eq_getElem hia, List.getElem?_eq_getElem hib, Option.getD_some] at hu'
  rcases cmp_cases a[i] b[i] with e | e | e
  ·rw [e] at h43
   simp [xf_vector_Compare_b0, xf_vector_Compare_k0, hia, hib, hia', hib', hw, h43, e]
  ·omega
  ·rw [e] at h43
   simp [xf_vector_Compare_b0, xf_vector_Compare_k0, hia, hib, hia', hib', hw, h43, e]
 ·have : ¬ ((a.zip b).length < a.length) := by omega
  rw [hz]
  simp [xf_vector_Compare_b0]
abbrev boxOw (s : State) : Blk := .box [.dat (di s.self), .dat (di s.status), .dat (di s.view), .dat (di s.last), .own 3 0 s.log.length, .dat (di s.commit), .own 4 0 s.vector.length, .dat (di s.idle), .own 5 0 s.acks.length, .own 6 0 s.marks.length, .own 7 0 s.ballots.length, .own 8 0 s.answers.length]
abbrev HO (c : Cfg) (s now : State) (z : Bool) : List Blk := [boxC c, boxS s, boxOw now, .arr 38 5 true z (now.log.map encE), .arr 43 2 true z (now.vector.map encD), .arr 102 4 true z (now.acks.map encAck), .arr 104 3 true z (now.marks.map encMark), .arr 55 6 false z (now.ballots.map encBal), .arr 77 6 false z (now.answers.map encAns)]
abbrev HD (c : Cfg) (s now : State) : List Blk := [boxC c, boxS s, boxS now]
end Go.Ax
namespace Go.Ax
set_option linter.all false
variable {n d : Nat}
set_option maxRecDepth 10000
set_option linter.unusedSimpArgs false
set_option maxHeartbeats 8000000
def stpS (c : Cfg) (s : State) (m : Msg) : State := if m.kind = 6 then callS 6 c s m else if m.kind = 7 then callS 7 c s m else if m.kind = 8 then callS 8 c s m else susS c s
def stpL (c : Cfg) (s : State) (m : Msg) : List Send := if m.kind = 6 then callL 6 c s m else if m.kind = 7 then callL 7 c s m else if m.kind = 8 then callL 8 c s m else susL c s
def stpE (c : Cfg) (s : State) (m : Msg) : Int := if m.kind = 6 then kErr c s m 6 else if m.kind = 7 then kErr c s m 7 else if m.kind = 8 then kErr c s m 8 else susErr c s
theorem stp_small {c : Cfg} {s : State} {m : Msg} (hs : Small2 s) (hm : SmallM m) : Small2 (stpS c s m) ∧ SmallL (stpL c s m) := by
 unfold stpS stpL
 split
 ·exact call6_small hs
 ·split
  ·exact call7_small hs hm
  ·split
   ·exact call8_small hs hm
   ·exact sus_small hs
theorem stp_cases (c : Cfg) (s : State) (m : Msg) : (∃ k, (k = 6 ∨ k = 7 ∨ k = 8) ∧ m.kind = k ∧ ∀ X : State, stpS c X m = callS k c X m ∧ stpL c X m = callL k c X m ∧ stpE c X m = kErr c X m k) ∨ (m.kind ≠ 6 ∧ m.kind ≠ 7 ∧ m.kind ≠ 8 ∧ ∀ X : State, stpS c X m = susS c X ∧ stpL c X m = susL c X ∧ stpE c X m = susErr c X) := by
 unfold stpS stpL stpE
 by_cases h6 : m.kind = 6
 ·exact .inl ⟨6, .inl rfl, h6, fun X => by rw [if_pos h6, if_pos h6, if_pos h6]; exact ⟨rfl, rfl, rfl⟩⟩
 ·by_cases h7 : m.kind = 7
  ·exact .inl ⟨7, .inr (.inl rfl), h7, fun X => by rw [if_neg h6, if_neg h6, if_neg h6, if_pos h7, if_pos h7, if_pos h7]; exact ⟨rfl, rfl, rfl⟩⟩
  ·by_cases h8 : m.kind = 8
   ·exact .inl ⟨8, .inr (.inr rfl), h8, fun X => by rw [if_neg h6, if_neg h6, if_neg h6, if_neg h7, if_neg h7, if_neg h7, if_pos h8, if_pos h8, if_pos h8]; exact ⟨rfl, rfl, rfl⟩⟩
   ·exact .inr ⟨h6, h7, h8, fun X => by rw [if_neg h6, if_neg h6, if_neg h6, if_neg h7, if_neg h7, if_neg h7, if_neg h8, if_neg h8, if_neg h8]; exact ⟨rfl, rfl, rfl⟩⟩
theorem stp_bad {c : Cfg} {s : State} {m : Msg} (h : stpE c s m ≠ 0) : stpS c s m = zeroS ∧ stpL c s m = [] := by
 rcases stp_cases c s m with ⟨k, _, _, e⟩ | ⟨_, _, _, e⟩
 ·obtain ⟨e1, e2, e3⟩ := e s
  rw [e3] at h
  rw [e1, e2]
  unfold callS callL
  rw [if_pos h, if_pos h]
  exact ⟨rfl, rfl⟩
 ·obtain ⟨e1, e2, e3⟩ := e s
  rw [e3] at h
  rw [e1, e2]
  unfold susS susL
  rw [if_pos h, if_pos h]
  exact ⟨rfl, rfl⟩
theorem nn_mxv2 : ∀ {a b : List Draw}, (∀ x ∈ a, Nn x) → (∀ x ∈ b, Nn x) → ∀ x ∈ mxv a b, Nn x
 | [], b, _, _, x, hx => by simp [mxv] at hx
 | y :: a, [], _, _, x, hx => by simp [mxv] at hx
 | y :: a, z :: b, ha, hb, x, hx => by
  simp only [mxv, List.zipWith_cons_cons, List.mem_cons] at hx
  rcases hx with rfl | hx
  ·unfold mxd
   split
   ·exact hb _ (by simp)
   ·exact ha _ (by simp)
  ·exact nn_mxv2 (a := a) (b := b) (fun w hw => ha w (by simp [hw])) (fun w hw => hb w (by simp [hw])) x hx
theorem stp_vec {c : Cfg} {s : State} {m : Msg} (h : stpE c s m = 0) : (stpS c s m).vector = s.vector ∨ ((stpS c s m).vector = mxv s.vector m.vector ∧ m.vector.length = s.vector.length) := by
 rcases stp_cases c s m with ⟨k, hk, hkd, e⟩ | ⟨_, _, _, e⟩
 ·obtain ⟨e1, e2, e3⟩ := e s
  rw [e3] at h
  rw [e1]
  obtain ⟨he, _, hme⟩ := kErr_zero h
  have hok := admS_ok he hme
  have hv : (callS k c s m).vector = (admS c s m).vector := by
   unfold callS
   simp only [h, ne_eq, not_true_eq_false, if_false]
   cases hB : admB c s m
   ·simp only [if_true]
   ·simp only [Bool.true_eq_false, if_false]
    have hne : m.node ≠ (admS c s m).self := by rw [admS_self he hme]; exact admB_node hB (between_kind hkd (by omega))
    by_cases hst : (admS c s m).status = 3 ∨ stale (admS c s m) m
    ·unfold stepS; rw [if_pos hst]
    ·exact (step_again hk hkd ⟨hok, hme, fun h => hst (.inl h), fun h => hst (.inr h)⟩ hne).2.1
  rw [hv]
  rcases admS_cases he hme with ⟨q, _⟩ | ⟨q, _, hb, _⟩
  ·rw [q]; exact .inl rfl
  ·obtain ⟨_, g1, _⟩ := nodes_ok he
   have := (msg_ok hme hb).1
   exact .inr ⟨by rw [q]; rfl, by omega⟩
 ·obtain ⟨e1, e2, e3⟩ := e s
  rw [e3] at h
  rw [e1]
  unfold susS
  simp only [h, ne_eq, not_true_eq_false, if_false]
  split <;> exact .inl rfl
theorem stp_nn {c : Cfg} {s : State} {m : Msg} (h : stpE c s m = 0) (ha : ∀ x ∈ s.vector, Nn x) (hb : ∀ x ∈ m.vector, Nn x) : ∀ x ∈ (stpS c s m).vector, Nn x := by
 rcases stp_vec h with e | ⟨e, _⟩
 ·rw [e]; exact ha
 ·rw [e]; exact nn_mxv2 ha hb
theorem stp_stand {c : Cfg} {s : State} {m : Msg} (h : stpE c s m = 0) : StandOk c s (stpS c s m) (stpL c s m) := by
 rcases stp_cases c s m with ⟨k, hk, hkd, e⟩ | ⟨_, _, _, e⟩
 ·obtain ⟨e1, e2, e3⟩ := e s
  rw [e3] at h
  rw [e1, e2]
  exact stand_call hk h
 ·obtain ⟨e1, e2, e3⟩ := e s
  rw [e3] at h
  rw [e1, e2]
  exact stand_sus h
theorem e_step11 (c : Cfg) (s : State) (m : Msg) (hs : Small2 s) (hm : SmallM m) (hN : ∀ x ∈ s.vector, Nn x) (hn : 2097157 < n) :
  runFn T n (d + 13) 12 [.dat (encCfg c), .dat (encS s), .dat (encM m)] [] = some (.tup [.dat (encS (stpS c s m)), .dat (encSds (stpL c s m)), .dat (di (stpE c s m))], []) := by
 have h6 := e_change_Start (n := n) (d := d) c s m hs hm hN hn
 have h7 := e_change_Vote (n := n) (d := d) c s m hs hm hN hn
 have h8 := e_change_Install (n := n) (d := d) c s m hs hm hN hn
 have h0 := e_change_Suspect (n := n) (d := d + 3) c s hs hn
 rw [runFn_succ]
 unfold stpS stpL stpE
 by_cases k6 : m.kind = 6
 ·have k6' := eq_true k6
  rw [if_pos k6, if_pos k6, if_pos k6]
  generalize callS 6 c s m = X at *
  generalize callL 6 c s m = L at *
  simp [T, xf_law11_step, k6', h6]
 ·have k6' := eq_false k6
  rw [if_neg k6, if_neg k6, if_neg k6]
  by_cases k7 : m.kind = 7
  ·have k7' := eq_true k7
   rw [if_pos k7, if_pos k7, if_pos k7]
   generalize callS 7 c s m = X at *
   generalize callL 7 c s m = L at *
   simp [T, xf_law11_step, k6', k7', h7]
  ·have k7' := eq_false k7
   rw [if_neg k7, if_neg k7, if_neg k7]
   by_cases k8 : m.kind = 8
   ·have k8' := eq_true k8
    rw [if_pos k8, if_pos k8, if_pos k8]
    generalize callS 8 c s m = X at *
    generalize callL 8 c s m = L at *
    simp [T, xf_law11_step, k6', k7', k8', h8]
   ·have k8' := eq_false k8
    rw [if_neg k8, if_neg k8, if_neg k8]
    generalize susS c s = X at *
    generalize susL c s = L at *
    simp [T, xf_law11_step, k6', k7', k8', h0]
end Go.Ax
