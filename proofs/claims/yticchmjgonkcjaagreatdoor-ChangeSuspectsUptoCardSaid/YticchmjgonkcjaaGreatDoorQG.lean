/-
  The document's view change, evaluated: its small parts.
-/
import Derived.Test.YticchmjgonkcjaaGreatDoorPA
import Derived.Test.YticchmjgonkcjaaGreatDoorMF
import Derived.Test.YticchmjgonkcjaaGreatDoorED
import Derived.Test.YticchmjgonkcjaaGreatDoorXTab
import Derived.Test.YticchmjgonkcjaaGreatDoorEH
namespace Go.Ax
set_option linter.all false
variable {n d : Nat}
set_option maxRecDepth 10000
set_option linter.unusedSimpArgs false
set_option maxHeartbeats 8000000
theorem eo_ref09_All (c : Cfg) (s : State) (m : Msg) (hs : Small2 s) (hm : SmallM m) (hn : 1048577 < n) (he : stateErr c s = 0) : runFn T n (d + 8) 52 [.dat (encCfg c), .dat (encS s), .dat (encM m)] [] = some (.tup [.own 0 0 (allS c s m).length, .dat (di 0)], [.arr 98 19 false false ((allS c s m).map encSd)]) := by
 have h1 := e_ref09_Check (n := n) (d := d) c s hs.toSmall hn
 obtain ⟨n1, n2⟩ := nodes_le (c := c)
 have h3 := l_ref09_All (n := n) (d := d + 4) c s m (nodesOf c).toNat (by omega) (by omega) hs hm hn
 simp [S_AllR, xf_ref09_All_k0] at h3
 rw [runFn_succ]
 rw [he] at h1
 unfold allS
 simp [T, xf_ref09_All, xf_ref09_All_k0, h1, h3]
theorem eo_ref09_All_no (c : Cfg) (s : State) (m : Msg) (hs : Small2 s) (hn : 1048577 < n) (he : stateErr c s ≠ 0) : runFn T n (d + 8) 52 [.dat (encCfg c), .dat (encS s), .dat (encM m)] [] = some (.tup [.nil 98 19 false, .dat (di (stateErr c s))], []) := by
 have h1 := e_ref09_Check (n := n) (d := d) c s hs.toSmall hn
 rw [runFn_succ]
 simp [T, xf_ref09_All, h1, he]
theorem e_ref11_bare (s : State) (hs : Small s) (hn : 1048577 < n) : runFn T n (d + 3) 42 [.dat (encS s)] [] = some (.dat (encS (bareS s)), []) := by
 have c := e_plain_CopyState (n := n) (d := d) s hs hn
 rw [runFn_succ]
 simp [T, xf_ref11_bare, c, bareS]
theorem e_ref11_goTo (c : Cfg) (s : State) (view : Int) (hs : Small2 s) (hn : 1048577 < n) (he : stateErr c (goS s view) = 0) : runFn T n (d + 9) 29 [.dat (encCfg c), .dat (encS s), .dat (di view)] [] = some (.tup [.agg ((cellsS (goS s view)).map .dat), .own 0 0 (goL c s view).length], [.arr 98 19 false false ((goL c s view).map encSd)]) := by
 have h1 := e_ref11_bare (n := n) (d := d + 5) s hs.toSmall hn
 have h2 := eo_ref09_All (n := n) (d := d) c (goS s view) (svcM view) (go_small2 hs view) ⟨by simp [svcM, zeroM], by simp [svcM, zeroM]⟩ hn he
 have hL : goL c s view = allS c (goS s view) (svcM view) := by unfold goL allR; rw [if_pos he]
 rw [hL]
 generalize allS c (goS s view) (svcM view) = L at *
 have hz : (⟨#[]⟩ : ByteArray) = ByteArray.empty := rfl
 simp [goS, svcM, zeroM, encM, cellsM, encLog, encV, encS, cellsS, encAcks, encMarks, encBals, encAnss] at h2
 simp [bareS, encS, cellsS, encAcks, encMarks, encBals, encAnss] at h1
 rw [runFn_succ]
 simp [T, xf_ref11_goTo, h1, h2, hz, goS]
theorem e_ref11_ballot (c : Cfg) (s : State) (hs : Small2 s) (hn : 1048577 < n) : runFn T n (d + 9) 30 [.dat (encCfg c), .dat (encS s)] [] = some (.dat (encSds (ballL c s)), []) := by
 have h1 := e_ref09_Primary (n := n) (d := d + 4) c s.view
 have h2 := e_ref09_One (n := n) (d := d) c s (primaryOf c s.view) (dvcM s) hs ⟨hs.log2, by simp [dvcM, zeroM]⟩ hn
 have hz : (⟨#[]⟩ : ByteArray) = ByteArray.empty := rfl
 rw [runFn_succ]
 unfold ballL
 by_cases hp : primaryOf c s.view = s.self
 ·rw [if_pos hp]
  rw [hp] at h1
  simp [T, xf_ref11_ballot, h1]
 ·rw [if_neg hp]
  generalize oneS c s (primaryOf c s.view) (dvcM s) = X at *
  have hp' := eq_false hp
  simp [dvcM, zeroM, encM, cellsM, encLog, encV] at h2
  simp [T, xf_ref11_ballot, h1, h2, hz, hp']
theorem e_ref11_admitted (c : Cfg) (s : State) (m : Msg) (k : Int) (hs : Small s) (hm : m.log.length ≤ 1048577) (hn : 1999999 < n) : runFn T n (d + 9) 28 [.dat (encCfg c), .dat (encS s), .dat (encM m), .dat (di k)] [] =
  some (.tup [.dat (encS (if kErr c s m k ≠ 0 then zeroS else admS c s m)), .dat (.bool (if kErr c s m k ≠ 0 then false else admB c s m)), .dat (di (kErr c s m k))], []) := by
 have h1 := e_ref09_Check (n := n) (d := d + 1) c s hs (by omega)
 have h2 := e_ref07_Check (n := n) (d := d + 3) c m hm (by omega)
 have h3 := e_ref09_Admit (n := n) (d := d) c s m hs hm hn
 rw [runFn_succ]
 unfold kErr
 by_cases he : stateErr c s = 0
 ·rw [he] at h1
  rw [if_neg (show ¬ stateErr c s ≠ 0 by simp [he])]
  by_cases hk : m.kind = k
  ·have hk' := eq_true hk
   rw [if_neg (show ¬ m.kind ≠ k by simp [hk])]
   have hE : admErr c s m = msgErr c m := by unfold admErr; rw [if_neg (by simp [he])]
   rw [hE] at h3
   by_cases hme : msgErr c m = 0
   ·rw [hme] at h2 h3 ⊢
    generalize admS c s m = X at *
    generalize admB c s m = B at *
    simp [T, xf_ref11_admitted, h1, h2, h3, hk']
   ·rw [if_pos hme, if_pos hme]
    generalize msgErr c m = ME at *
    simp [T, xf_ref11_admitted, h1, h2, hk', hme, zeroS]
  ·have hk' := eq_false hk
   rw [if_pos hk]
   simp [T, xf_ref11_admitted, h1, hk', zeroS]
 ·rw [if_pos he]
  generalize stateErr c s = SE at *
  simp [T, xf_ref11_admitted, h1, he, zeroS]
end Go.Ax
namespace Go.Ax
set_option linter.all false
set_option maxRecDepth 100000
theorem k_alive11 : (runFn T 2097158 14 13 [] []).map (·.1) = some (.dat (.bool true)) := by kernel_rfl
end Go.Ax
namespace Go.Ax
set_option linter.all false
variable {n d : Nat}
set_option maxRecDepth 10000
set_option linter.unusedSimpArgs false
set_option maxHeartbeats 8000000
theorem svc_small3 (v : Int) : SmallM (svcM v) := ⟨by simp [svcM, zeroM], by simp [svcM, zeroM]⟩
theorem dvc_small3 {s : State} (h : Small2 s) : SmallM (dvcM s) := ⟨h.log2, by simp [dvcM, zeroM]⟩
theorem zeroS_small2 : Small2 zeroS := ⟨⟨by simp [zeroS], by simp [zeroS], by simp [zeroS], by simp [zeroS], by simp [zeroS], by simp [zeroS], by simp [zeroS], by simp [zeroS]⟩, by simp [zeroS], by simp [zeroS], by simp [zeroS], by simp [zeroS]⟩
def SmallL (l : List Send) : Prop := l.length ≤ 1000 ∧ ∀ x ∈ l, SmallM x.msg
theorem SmallL.nil : SmallL [] := ⟨by simp, by simp⟩
theorem SmallL.all {c : Cfg} {s : State} {m : Msg} (hs : Small2 s) (hm : SmallM m) : SmallL (allR c s m) ∧ (allR c s m).length ≤ 100 := by
 unfold allR
 split
 ·have := allS_len' (c := c) (s := s) (m := m)
  exact ⟨⟨by omega, (allS_small hs hm).2⟩, this⟩
 ·exact ⟨SmallL.nil, by simp⟩
theorem oneS_small {c : Cfg} {s : State} {to : Int} {m : Msg} (hs : Small2 s) (hm : SmallM m) : SmallM (oneS c s to m).msg := by
 unfold oneS
 split
 ·exact ⟨by simp [zeroM], by simp [zeroM]⟩
 ·exact hm.stamp hs
theorem ballL_small {c : Cfg} {s : State} (hs : Small2 s) : (ballL c s).length ≤ 1 ∧ ∀ x ∈ ballL c s, SmallM x.msg := by
 unfold ballL
 split
 ·simp
 ·refine ⟨by simp, fun x hx => ?_⟩
  rw [List.mem_singleton.1 hx]
  exact oneS_small hs (dvc_small3 hs)
theorem firstL_small {c : Cfg} {t : State} {m : Msg} (h : Small2 t) : SmallL (firstL c t m) ∧ (firstL c t m).length ≤ 100 := by
 unfold firstL
 split
 ·exact SmallL.all (go_small2 h _) (svc_small3 _)
 ·exact ⟨SmallL.nil, by simp⟩
theorem call_small {k : Int} {c : Cfg} {s : State} {m : Msg} (hs : Small2 s) (h : kErr c s m k = 0 → stateErr c (admS c s m) = 0 → Small2 (admS c s m) → Small2 (stepS k c (admS c s m) m) ∧ SmallL (stepL k c (admS c s m) m)) :
  Small2 (callS k c s m) ∧ SmallL (callL k c s m) := by
 unfold callS callL
 by_cases hk : kErr c s m k = 0
 ·obtain ⟨h1, _, h3⟩ := kErr_zero hk
  have g := h hk (admS_ok h1 h3) (hs.adm h1 h3)
  simp only [hk, ne_eq, not_true_eq_false, if_false]
  split
  ·exact ⟨hs.adm h1 h3, SmallL.nil⟩
  ·exact g
 ·rw [if_pos hk, if_pos hk]
  exact ⟨zeroS_small2, SmallL.nil⟩
theorem e_num11 (k : Int) : runFn T n (d + 1) 22 [.dat (di k)] [] = some (.dat (di k), []) := by
 rw [runFn_succ]
 simp [T, xf_law11_num]
theorem e_same11 (S : State) (L : List Send) (e : Int) (hS : Small S) (hL : SmallL L) (hn : 1048577 < n) : runFn T n (d + 4) 11 [.dat (encS S), .dat (encSds L), .dat (di e), .dat (encS S), .dat (encSds L), .dat (di e)] [] = some (.dat (.bool true), []) := by
 have h1 := e_num11 (n := n) (d := d + 2) e
 have h2 := e_plain_SameState (n := n) (d := d) S hS hn
 have h3 := e_plain_SameSends (n := n) (d := d) L (by have := hL.1; omega) hL.2 hn
 rw [runFn_succ]
 simp [T, xf_law11_same, h1, h2, h3]
theorem alive11 : ∃ H, runFn T 2097158 14 13 [] [] = some (.dat (.bool true), H) := by
 have h := k_alive11
 cases hr : runFn T 2097158 14 13 [] [] with
 | none => rw [hr] at h; cases h
 | some x =>
  rw [hr] at h
  obtain ⟨a, H⟩ := x
  injection h with h
  simp only at h
  exact ⟨H, by rw [h]⟩
end Go.Ax
