/-
  change.Install, evaluated.
-/
import Derived.Test.YticchmjgonkcjaaGreatDoorPA
import Derived.Test.YticchmjgonkcjaaGreatDoorMF
import Derived.Test.YticchmjgonkcjaaGreatDoorED
import Derived.Test.YticchmjgonkcjaaGreatDoorEH
import Derived.Test.YticchmjgonkcjaaGreatDoorQG
namespace Go.Ax
set_option linter.all false
variable {n d : Nat}
set_option maxRecDepth 10000
set_option linter.unusedSimpArgs false
set_option maxHeartbeats 16000000
theorem adm_err8 {c : Cfg} {s : State} {m : Msg} (h : stateErr c s = 0) : admErr c s m = msgErr c m := by unfold admErr; rw [if_neg (by simp [h])]
theorem inst_small {t : State} (h : Small2 t) {m : Msg} (hm : SmallM m) : Small2 (instS t m) :=
 ⟨⟨by have := hm.log; simp only [instS]; omega, h.vector, by simp [instS], by simp [instS], by simp [instS], by simp [instS], by simp [instS], by simp [instS]⟩, hm.log, h.vector2, by simp [instS], by simp [instS]⟩
theorem e_handle8 (c : Cfg) (s : State) (m : Msg) (hs : Small2 s) (hm : SmallM m) (hN : ∀ x ∈ s.vector, Nn x) (hn : 2097157 < n) :
  runFn T n (d + 11) 24 [.dat (encCfg c), .dat (encS s), .dat (encM m), .dat (di 8)] [] = some (.tup [.dat (encS (callS 8 c s m)), .dat (encSds (callL 8 c s m)), .dat (di (kErr c s m 8))], []) := by
 have k1 := e_core_Check (n := n) (d := d + 5) c s hs.toSmall (by omega)
 have mc := e_message_Check (n := n) (d := d + 7) c m (by have := hm.log; omega) (by omega)
 have ad := e_core_Admit (n := n) (d := d + 4) c s m hs.toSmall (by have := hm.log; omega) hN (by omega)
 have U56 := fun k a H => runFn_succ (n := n) T k 56 a H
 have U102 := fun k a H => runFn_succ (n := n) T k 102 a H
 have U79 := fun k a H => runFn_succ (n := n) T k 79 a H
 have U82 := fun k a H => runFn_succ (n := n) T k 82 a H
 have U83 := fun k a H => runFn_succ (n := n) T k 83 a H
 have hw0 : IntKind.wrap .i64 2 = 2 := by decide
 rw [runFn_succ]
 unfold callS callL
 by_cases he : stateErr c s = 0
 ·rw [he] at k1
  by_cases hk : m.kind = 8
  ·have hk' := eq_true hk
   have hKE : kErr c s m 8 = msgErr c m := by unfold kErr; rw [if_neg (show ¬ stateErr c s ≠ 0 by simp [he]), if_neg (show ¬ m.kind ≠ 8 by simp [hk])]
   rw [hKE]
   by_cases hme : msgErr c m = 0
   ·rw [hme] at mc
    rw [adm_err8 he, hme] at ad
    rw [if_neg (show ¬ msgErr c m ≠ 0 by simp [hme]), if_neg (show ¬ msgErr c m ≠ 0 by simp [hme]), hme]
    have hok := admS_ok he hme
    have hsm := hs.adm he hme
    have hnod := nodes_ok hok
    obtain ⟨gc, gn1, gn2, gv1, gv2, gcm, gl, gt⟩ := msg_nums hme
    have hsf := admS_self he hme
    have hBn : admB c s m = true → m.node ≠ (admS c s m).self := fun h => by rw [hsf]; exact admB_node h (between_kind hk (by omega))
    generalize admS c s m = t at *
    generalize admB c s m = B at *
    obtain ⟨_, g1, g2, g3, _⟩ := hnod
    simp only [NN] at g1 g3 gn2
    cases B
    ·simp [T, xf_change_handle, k1, mc, ad, hk']
    ·have hne := hBn rfl
     rw [if_neg (by simp), if_neg (by simp)]
     unfold stepS stepL
     by_cases h3 : t.status = 3
     ·have h3' := eq_true h3
      rw [if_pos (.inl h3), if_pos (.inl h3)]
      simp [T, xf_change_handle, k1, mc, ad, hw0, hk', h3']
     ·have h3' := eq_false h3
      by_cases hst : stale t m
      ·rw [if_pos (.inr hst), if_pos (.inr hst)]
       by_cases v1 : m.view < t.view
       ·simp [T, xf_change_handle, xf_change_handlers, xf_change_install, U56, U102, k1, mc, ad, hw0, hk', h3', v1]
       ·have v2 : m.view = t.view ∧ t.status = 1 := by unfold stale at hst; rcases hst with h | h; exact absurd h v1; exact h
        have v2' := eq_true v2.1
        have v3' := eq_true v2.2
        simp [T, xf_change_handle, xf_change_handlers, xf_change_install, U56, U102, k1, mc, ad, hw0, hk', h3', v1, v2', v3']
      ·have hns : ¬ (t.status = 3 ∨ stale t m) := fun h => h.elim h3 hst
       rw [if_neg hns, if_neg hns, if_neg (show ¬ (8 : Int) = 6 by decide), if_neg (show ¬ (8 : Int) = 6 by decide), if_neg (show ¬ (8 : Int) = 7 by decide), if_neg (show ¬ (8 : Int) = 7 by decide)]
       have v1 : ¬ m.view < t.view := fun h => hst (.inl h)
       have v2 : ¬ (m.view = t.view ∧ t.status = 1) := fun h => hst (.inr h)
       have hpn : primaryOf c m.view = m.node := by
        unfold primaryOf
        rw [if_pos ⟨gc, gv1, gv2⟩]
        unfold numsTail at gt
        rw [if_neg (by omega), if_neg (by omega), if_neg (by omega), if_pos hk] at gt
        simp only [Bool.and_eq_true, decide_eq_true_eq] at gt
        rw [gt.1]
       have hz : (⟨#[]⟩ : ByteArray) = ByteArray.empty := rfl
       have hi := inst_small hsm (m := m) hm
       have pr := e_core_Primary (n := n) (d := d + 5) c m.view
       rw [hpn] at pr
       have o1 := e_core_One (n := n) (d := d + 2) c (instS t m) m.node (pokM m.view m.log) hi ⟨by simp [pokM, zeroM], by simp [pokM, zeroM]⟩ (by omega)
       have hLl : m.log.length ≤ LIM := by have := hm.log; simp only [LIM]; omega
       unfold instL
       have hmx : (instS t m).commit = if (m.log.length : Int) < (if t.commit < m.commit then m.commit else t.commit) then (m.log.length : Int) else (if t.commit < m.commit then m.commit else t.commit) := by
        unfold instS
        simp only
        split <;> split at * <;> omega
       generalize oneS c (instS t m) m.node (pokM m.view m.log) = X at *
       generalize oneErr c (instS t m) m.node = OE at *
       by_cases v3 : m.view = t.view
       ·have v5 : ¬ t.status = 1 := fun h => v2 ⟨v3, h⟩
        have v2' := eq_true v3
        have v3' := eq_false v5
        by_cases h1 : t.commit < m.commit
        ·rw [if_pos h1] at hmx
         by_cases h2 : (m.log.length : Int) < m.commit
         ·rw [if_pos h2] at hmx
          have h4 : ¬ (instS t m).commit < m.log.length := by omega
          rw [if_neg h4]
          have hms : min (max t.commit m.commit) (m.log.length : Int) = m.log.length := by omega
          simp (maxSteps := 1000000) [T, xf_change_handle, xf_change_handlers, xf_change_install, xf_change_frame_clear, U56, U102, U79, k1, mc, ad, hw0, hk', h3', v1, v2', v3', h1, h2, hLl, hz, instS, hms]
         ·rw [if_neg h2] at hmx
          have hms : min (max t.commit m.commit) (m.log.length : Int) = m.commit := by omega
          simp [instS, pokM, zeroM, encM, cellsM, encLog, encV, encS, cellsS, encAcks, encMarks, encBals, encAnss, hms] at o1
          by_cases h5 : m.commit < m.log.length
          ·have h4 : (instS t m).commit < m.log.length := by omega
           rw [if_pos h4]
           simp (maxSteps := 1000000) [T, xf_change_handle, xf_change_handlers, xf_change_install, xf_change_frame_clear, xf_change_frame_primary, xf_change_frame_one, U56, U102, U79, U82, U83, k1, mc, ad, hw0, hk', h3', v1, v2', v3', h1, h2, h5, hLl, hz, instS, hms, pr, o1]
          ·have h4 : ¬ (instS t m).commit < m.log.length := by omega
           rw [if_neg h4]
           simp (maxSteps := 1000000) [T, xf_change_handle, xf_change_handlers, xf_change_install, xf_change_frame_clear, U56, U102, U79, k1, mc, ad, hw0, hk', h3', v1, v2', v3', h1, h2, h5, hLl, hz, instS, hms]
        ·rw [if_neg h1] at hmx
         by_cases h2 : (m.log.length : Int) < t.commit
         ·rw [if_pos h2] at hmx
          have h4 : ¬ (instS t m).commit < m.log.length := by omega
          rw [if_neg h4]
          have hms : min (max t.commit m.commit) (m.log.length : Int) = m.log.length := by omega
          simp (maxSteps := 1000000) [T, xf_change_handle, xf_change_handlers, xf_change_install, xf_change_frame_clear, U56, U102, U79, k1, mc, ad, hw0, hk', h3', v1, v2', v3', h1, h2, hLl, hz, instS, hms]
         ·rw [if_neg h2] at hmx
          have hms : min (max t.commit m.commit) (m.log.length : Int) = t.commit := by omega
          simp [instS, pokM, zeroM, encM, cellsM, encLog, encV, encS, cellsS, encAcks, encMarks, encBals, encAnss, hms] at o1
          by_cases h5 : t.commit < m.log.length
          ·have h4 : (instS t m).commit < m.log.length := by omega
           rw [if_pos h4]
           simp (maxSteps := 1000000) [T, xf_change_handle, xf_change_handlers, xf_change_install, xf_change_frame_clear, xf_change_frame_primary, xf_change_frame_one, U56, U102, U79, U82, U83, k1, mc, ad, hw0, hk', h3', v1, v2', v3', h1, h2, h5, hLl, hz, instS, hms, pr, o1]
          ·have h4 : ¬ (instS t m).commit < m.log.length := by omega
           rw [if_neg h4]
           simp (maxSteps := 1000000) [T, xf_change_handle, xf_change_handlers, xf_change_install, xf_change_frame_clear, U56, U102, U79, k1, mc, ad, hw0, hk', h3', v1, v2', v3', h1, h2, h5, hLl, hz, instS, hms]
       ·have v2' := eq_false v3
        by_cases h1 : t.commit < m.commit
        ·rw [if_pos h1] at hmx
         by_cases h2 : (m.log.length : Int) < m.commit
         ·rw [if_pos h2] at hmx
          have h4 : ¬ (instS t m).commit < m.log.length := by omega
          rw [if_neg h4]
          have hms : min (max t.commit m.commit) (m.log.length : Int) = m.log.length := by omega
          simp (maxSteps := 1000000) [T, xf_change_handle, xf_change_handlers, xf_change_install, xf_change_frame_clear, U56, U102, U79, k1, mc, ad, hw0, hk', h3', v1, v2', h1, h2, hLl, hz, instS, hms]
         ·rw [if_neg h2] at hmx
          have hms : min (max t.commit m.commit) (m.log.length : Int) = m.commit := by omega
          simp [instS, pokM, zeroM, encM, cellsM, encLog, encV, encS, cellsS, encAcks, encMarks, encBals, encAnss, hms] at o1
          by_cases h5 : m.commit < m.log.length
          ·have h4 : (instS t m).commit < m.log.length := by omega
           rw [if_pos h4]
           simp (maxSteps := 1000000) [T, xf_change_handle, xf_change_handlers, xf_change_install, xf_change_frame_clear, xf_change_frame_primary, xf_change_frame_one, U56, U102, U79, U82, U83, k1, mc, ad, hw0, hk', h3', v1, v2', h1, h2, h5, hLl, hz, instS, hms, pr, o1]
          ·have h4 : ¬ (instS t m).commit < m.log.length := by omega
           rw [if_neg h4]
           simp (maxSteps := 1000000) [T, xf_change_handle, xf_change_handlers, xf_change_install, xf_change_frame_clear, U56, U102, U79, k1, mc, ad, hw0, hk', h3', v1, v2', h1, h2, h5, hLl, hz, instS, hms]
        ·rw [if_neg h1] at hmx
         by_cases h2 : (m.log.length : Int) < t.commit
         ·rw [if_pos h2] at hmx
          have h4 : ¬ (instS t m).commit < m.log.length := by omega
          rw [if_neg h4]
          have hms : min (max t.commit m.commit) (m.log.length : Int) = m.log.length := by omega
          simp (maxSteps := 1000000) [T, xf_change_handle, xf_change_handlers, xf_change_install, xf_change_frame_clear, U56, U102, U79, k1, mc, ad, hw0, hk', h3', v1, v2', h1, h2, hLl, hz, instS, hms]
         ·rw [if_neg h2] at hmx
          have hms : min (max t.commit m.commit) (m.log.length : Int) = t.commit := by omega
          simp [instS, pokM, zeroM, encM, cellsM, encLog, encV, encS, cellsS, encAcks, encMarks, encBals, encAnss, hms] at o1
          by_cases h5 : t.commit < m.log.length
          ·have h4 : (instS t m).commit < m.log.length := by omega
           rw [if_pos h4]
           simp (maxSteps := 1000000) [T, xf_change_handle, xf_change_handlers, xf_change_install, xf_change_frame_clear, xf_change_frame_primary, xf_change_frame_one, U56, U102, U79, U82, U83, k1, mc, ad, hw0, hk', h3', v1, v2', h1, h2, h5, hLl, hz, instS, hms, pr, o1]
          ·have h4 : ¬ (instS t m).commit < m.log.length := by omega
           rw [if_neg h4]
           simp (maxSteps := 1000000) [T, xf_change_handle, xf_change_handlers, xf_change_install, xf_change_frame_clear, U56, U102, U79, k1, mc, ad, hw0, hk', h3', v1, v2', h1, h2, h5, hLl, hz, instS, hms]
   ·rw [if_pos hme, if_pos hme]
    generalize msgErr c m = ME at *
    simp [T, xf_change_handle, k1, mc, hk', hme, zeroS]
  ·have hk' := eq_false hk
   have hKE : kErr c s m 8 = 70 := by unfold kErr; rw [if_neg (show ¬ stateErr c s ≠ 0 by simp [he]), if_pos hk]
   rw [hKE, if_pos (by simp), if_pos (by simp)]
   simp [T, xf_change_handle, k1, hk', zeroS]
 ·have hKE : kErr c s m 8 = stateErr c s := by unfold kErr; rw [if_pos he]
  rw [hKE, if_pos he, if_pos he]
  generalize stateErr c s = SE at *
  simp [T, xf_change_handle, k1, he, zeroS]
end Go.Ax
namespace Go.Ax
set_option linter.all false
variable {n d : Nat}
set_option maxRecDepth 10000
set_option linter.unusedSimpArgs false
set_option maxHeartbeats 16000000
theorem inst_small2 {t : State} (h : Small2 t) {m : Msg} (hm : SmallM m) : Small2 (instS t m) :=
 ⟨⟨by have := hm.log; simp only [instS]; omega, h.vector, by simp [instS], by simp [instS], by simp [instS], by simp [instS], by simp [instS], by simp [instS]⟩, hm.log, h.vector2, by simp [instS], by simp [instS]⟩
theorem e_ref11_Install (c : Cfg) (s : State) (m : Msg) (hs : Small2 s) (hm : SmallM m) (hn : 2097157 < n) :
  runFn T n (d + 10) 17 [.dat (encCfg c), .dat (encS s), .dat (encM m)] [] = some (.tup [.dat (encS (callS 8 c s m)), .dat (encSds (callL 8 c s m)), .dat (di (kErr c s m 8))], []) := by
 have ad := e_ref11_admitted (n := n) (d := d) c s m 8 hs.toSmall (by have := hm.log; omega) (by omega)
 rw [runFn_succ]
 unfold callS callL
 by_cases hk : kErr c s m 8 = 0
 ·obtain ⟨he, hkd, hme⟩ := kErr_zero hk
  rw [hk] at ad ⊢
  simp only [ne_eq, not_true_eq_false, if_false] at ad ⊢
  have hok := admS_ok he hme
  have hsm := hs.adm he hme
  generalize admS c s m = t at *
  generalize admB c s m = B at *
  cases B
  ·simp [T, xf_ref11_Install, ad]
  ·simp only [Bool.true_eq_false, if_false]
   unfold stepS stepL
   by_cases h3 : t.status = 3
   ·have h3' := eq_true h3
    rw [if_pos (.inl h3), if_pos (.inl h3)]
    simp [T, xf_ref11_Install, ad, h3']
   ·have h3' := eq_false h3
    by_cases hst : stale t m
    ·rw [if_pos (.inr hst), if_pos (.inr hst)]
     by_cases v1 : m.view < t.view
     ·simp [T, xf_ref11_Install, ad, h3', v1]
     ·have v2 : m.view = t.view ∧ t.status = 1 := by unfold stale at hst; rcases hst with h | h; exact absurd h v1; exact h
      have v2' := eq_true v2.1
      have v3' := eq_true v2.2
      simp [T, xf_ref11_Install, ad, h3', v1, v2', v3']
    ·have hns : ¬ (t.status = 3 ∨ stale t m) := fun h => h.elim h3 hst
     rw [if_neg hns, if_neg hns, if_neg (show ¬ (8 : Int) = 6 by decide), if_neg (show ¬ (8 : Int) = 6 by decide), if_neg (show ¬ (8 : Int) = 7 by decide), if_neg (show ¬ (8 : Int) = 7 by decide)]
     have v1 : ¬ m.view < t.view := fun h => hst (.inl h)
     have hi := inst_small2 hsm (m := m) hm
     have bare := e_ref11_bare (n := n) (d := d + 6) t hsm.toSmall (by omega)
     simp [bareS, encS, cellsS, encAcks, encMarks, encBals, encAnss] at bare
     have cp := e_plain_CopyEntries (n := n) (d := d + 8) m.log (by have := hm.log; omega)
     have hml : m.log.length ≤ LIM := by have := hm.log; simp only [LIM]; omega
     have o1 := e_ref09_One (n := n) (d := d + 1) c (instS t m) m.node (pokM m.view m.log) hi ⟨by simp [pokM, zeroM], by simp [pokM, zeroM]⟩ (by omega)
     have hz : (⟨#[]⟩ : ByteArray) = ByteArray.empty := rfl
     unfold instL
     generalize oneS c (instS t m) m.node (pokM m.view m.log) = X at *
     generalize oneErr c (instS t m) m.node = OE at *
     have fin : ∀ (A : Prop), (m.view = t.view) = A → (A = True → (t.status = 1) = False) → runFn T n (d + 10) 17 [.dat (encCfg c), .dat (encS s), .dat (encM m)] [] = some (.tup [.dat (encS (instS t m)), .dat (encSds (if (instS t m).commit < m.log.length then [X] else [])), .dat (di 0)], []) := by
      intro A hA hB
      rw [runFn_succ]
      by_cases h1 : t.commit < m.commit
      ·by_cases h2 : (m.log.length : Int) < m.commit
       ·have hc : (instS t m).commit = m.log.length := by simp only [instS]; omega
        have hms : min (max t.commit m.commit) (m.log.length : Int) = m.log.length := by omega
        rw [if_neg (by omega)]
        by_cases v2 : m.view = t.view
        ·have v2' := eq_true v2
         have v3' := hB (by rw [← hA]; exact v2')
         simp (maxSteps := 1000000) [T, xf_ref11_Install, ad, h3', v1, v2', v3', bare, cp, h1, h2, hml, instS, hms]
        ·have v2' := eq_false v2
         simp (maxSteps := 1000000) [T, xf_ref11_Install, ad, h3', v1, v2', bare, cp, h1, h2, hml, instS, hms]
       ·have hc : (instS t m).commit = m.commit := by simp only [instS]; omega
        have hms : min (max t.commit m.commit) (m.log.length : Int) = m.commit := by omega
        simp [instS, pokM, zeroM, encM, cellsM, encLog, encV, encS, cellsS, encAcks, encMarks, encBals, encAnss, hms] at o1
        by_cases h5 : (m.log.length : Int) = m.commit
        ·have h5' := eq_true h5
         rw [if_neg (by omega)]
         by_cases v2 : m.view = t.view
         ·have v2' := eq_true v2
          have v3' := hB (by rw [← hA]; exact v2')
          simp (maxSteps := 1000000) [T, xf_ref11_Install, ad, h3', v1, v2', v3', bare, cp, h1, h2, h5', hml, instS, hms]
         ·have v2' := eq_false v2
          simp (maxSteps := 1000000) [T, xf_ref11_Install, ad, h3', v1, v2', bare, cp, h1, h2, h5', hml, instS, hms]
        ·have h5' := eq_false h5
         rw [if_pos (by omega)]
         by_cases v2 : m.view = t.view
         ·have v2' := eq_true v2
          have v3' := hB (by rw [← hA]; exact v2')
          simp (maxSteps := 1000000) [T, xf_ref11_Install, ad, h3', v1, v2', v3', bare, cp, h1, h2, h5', hml, instS, hms, o1, hz]
         ·have v2' := eq_false v2
          simp (maxSteps := 1000000) [T, xf_ref11_Install, ad, h3', v1, v2', bare, cp, h1, h2, h5', hml, instS, hms, o1, hz]
      ·by_cases h2 : (m.log.length : Int) < t.commit
       ·have hc : (instS t m).commit = m.log.length := by simp only [instS]; omega
        have hms : min (max t.commit m.commit) (m.log.length : Int) = m.log.length := by omega
        rw [if_neg (by omega)]
        by_cases v2 : m.view = t.view
        ·have v2' := eq_true v2
         have v3' := hB (by rw [← hA]; exact v2')
         simp (maxSteps := 1000000) [T, xf_ref11_Install, ad, h3', v1, v2', v3', bare, cp, h1, h2, hml, instS, hms]
        ·have v2' := eq_false v2
         simp (maxSteps := 1000000) [T, xf_ref11_Install, ad, h3', v1, v2', bare, cp, h1, h2, hml, instS, hms]
       ·have hc : (instS t m).commit = t.commit := by simp only [instS]; omega
        have hms : min (max t.commit m.commit) (m.log.length : Int) = t.commit := by omega
        simp [instS, pokM, zeroM, encM, cellsM, encLog, encV, encS, cellsS, encAcks, encMarks, encBals, encAnss, hms] at o1
        by_cases h5 : (m.log.length : Int) = t.commit
        ·have h5' := eq_true h5
         rw [if_neg (by omega)]
         by_cases v2 : m.view = t.view
         ·have v2' := eq_true v2
          have v3' := hB (by rw [← hA]; exact v2')
          simp (maxSteps := 1000000) [T, xf_ref11_Install, ad, h3', v1, v2', v3', bare, cp, h1, h2, h5', hml, instS, hms]
         ·have v2' := eq_false v2
          simp (maxSteps := 1000000) [T, xf_ref11_Install, ad, h3', v1, v2', bare, cp, h1, h2, h5', hml, instS, hms]
        ·have h5' := eq_false h5
         rw [if_pos (by omega)]
         by_cases v2 : m.view = t.view
         ·have v2' := eq_true v2
          have v3' := hB (by rw [← hA]; exact v2')
          simp (maxSteps := 1000000) [T, xf_ref11_Install, ad, h3', v1, v2', v3', bare, cp, h1, h2, h5', hml, instS, hms, o1, hz]
         ·have v2' := eq_false v2
          simp (maxSteps := 1000000) [T, xf_ref11_Install, ad, h3', v1, v2', bare, cp, h1, h2, h5', hml, instS, hms, o1, hz]
     have := fin _ rfl (fun h => eq_false fun h2 => hst (.inr ⟨of_eq_true h, h2⟩))
     rw [runFn_succ] at this
     exact this
 ·simp only [ne_eq, hk, not_false_eq_true, if_true] at ad ⊢
  generalize kErr c s m 8 = K at *
  simp [T, xf_ref11_Install, ad, hk, zeroS]
end Go.Ax
namespace Go.Ax
set_option linter.all false
variable {n d : Nat}
set_option maxRecDepth 10000
set_option linter.unusedSimpArgs false
set_option maxHeartbeats 8000000
theorem call8_small {c : Cfg} {s : State} {m : Msg} (hs : Small2 s) (hm : SmallM m) : Small2 (callS 8 c s m) ∧ SmallL (callL 8 c s m) := by
 refine call_small hs fun _ ho h2 => ?_
 have hi := inst_small2 h2 (m := m) hm
 unfold stepS stepL
 split
 ·exact ⟨h2, SmallL.nil⟩
 ·rw [if_neg (show ¬ (8 : Int) = 6 by decide), if_neg (show ¬ (8 : Int) = 6 by decide), if_neg (show ¬ (8 : Int) = 7 by decide), if_neg (show ¬ (8 : Int) = 7 by decide)]
  refine ⟨hi, ?_⟩
  unfold instL
  split
  ·refine ⟨by simp, fun x hx => ?_⟩
   rw [List.mem_singleton.1 hx]
   exact oneS_small hi ⟨by simp [pokM, zeroM], by simp [pokM, zeroM]⟩
  ·exact SmallL.nil
theorem e_change_Install (c : Cfg) (s : State) (m : Msg) (hs : Small2 s) (hm : SmallM m) (hN : ∀ x ∈ s.vector, Nn x) (hn : 2097157 < n) :
  runFn T n (d + 12) 16 [.dat (encCfg c), .dat (encS s), .dat (encM m)] [] = some (.tup [.dat (encS (callS 8 c s m)), .dat (encSds (callL 8 c s m)), .dat (di (kErr c s m 8))], []) := by
 have h := e_handle8 (n := n) (d := d) c s m hs hm hN hn
 rw [runFn_succ]
 simp [T, xf_change_Install, h]
theorem law_ChangeInstalls (c : Cfg) (s : State) (m : Msg) (hs : Small2 s) (hm : SmallM m) (hN : ∀ x ∈ s.vector, Nn x) (hn : 2097157 < n) (hal : ∃ H, runFn T n (d + 14) 13 [] [] = some (.dat (.bool true), H)) :
  ∃ H, runFn T n (d + 15) 5 [.dat (encCfg c), .dat (encS s), .dat (encM m)] [] = some (.dat (.bool true), H) := by
 have g := e_Given_State (n := n) (d := d + 11) s hs (by omega)
 have hgl : (gsE1 s s.answers).length ≤ 6000000 ∧ 0 < (gsE1 s s.answers).length := by
  have hb := hs.ballots
  have ha := hs.answers
  constructor
  ·simp [gsE1]; omega
  ·simp [gsE1]
 have g2 := e_Given_Msg (n := n) (d := d + 11) m hm [rD s.vector] (gsE1 s s.answers) [encS s] (by simp) (by simp) hgl.1 hgl.2 (by simp)
 have o1 := e_change_Install (n := n) (d := d + 2) c s m hs hm hN hn
 have o2 := e_ref11_Install (n := n) (d := d + 4) c s m hs hm hn
 obtain ⟨sm1, sm2⟩ := call8_small (c := c) (m := m) hs hm
 have s1 := e_same11 (n := n) (d := d + 10) (callS 8 c s m) (callL 8 c s m) (kErr c s m 8) sm1.toSmall sm2 (by omega)
 have hin := e_Intact2 (n := n) (d := d + 10) s m hs hm hn
 unfold givAV givH at g
 simp only [List.length_cons, List.length_nil, Nat.zero_add] at g2
 generalize callS 8 c s m = X at o1 o2 s1
 generalize callL 8 c s m = L at o1 o2 s1
 generalize kErr c s m 8 = K at o1 o2 s1
 obtain ⟨AH, hal⟩ := hal
 rw [runFn_succ]
 simp [T, xf_law11_ChangeInstalls, g, g2, o1, o2, s1, hin, hal]
end Go.Ax
