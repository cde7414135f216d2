/-
  Layer 12, the document's: an answer among others; what goes out at a start.
-/
import Derived.Test.YtfoglingdnhjpaaGreatDoorRZ
import Derived.Test.YtfoglingdnhjpaaGreatDoorSS
import Derived.Test.YtfoglingdnhjpaaGreatDoorQG
import Derived.Test.YtfoglingdnhjpaaGreatDoorED
import Derived.Test.YtfoglingdnhjpaaGreatDoorEF
namespace Go.Ax
set_option linter.all false
variable {n d : Nat}
set_option maxRecDepth 10000
set_option maxHeartbeats 16000000
end Go.Ax
namespace Go.Ax
set_option linter.all false
variable {n d : Nat}
set_option maxRecDepth 10000
set_option maxHeartbeats 16000000
theorem adm_status {c : Cfg} {s : State} {m : Msg} (h : stateErr c s = 0) (hm : msgErr c m = 0) : (admS c s m).status = s.status := by
 rcases admS_cases h hm with ⟨e, _⟩ | ⟨e, _⟩ <;> rw [e]
 rfl
theorem call_ways {k : Int} (hk : k = 9 ∨ k = 10 ∨ k = 11 ∨ k = 12) (c : Cfg) (s : State) (m : Msg) :
  (kErr c s m k ≠ 0 ∧ rCallS k c s m = zeroS ∧ rCallL k c s m = []) ∨
  (kErr c s m k = 0 ∧ admB c s m = false ∧ rCallS k c s m = admS c s m ∧ rCallL k c s m = []) ∨
  (kErr c s m k = 0 ∧ admB c s m = true ∧ Adm c s m (admS c s m) ∧ m.kind = k ∧ (admS c s m).status = s.status ∧ rCallS k c s m = rStepS k c (admS c s m) m ∧ rCallL k c s m = rStepL k c (admS c s m) m) := by
 unfold rCallS rCallL
 by_cases hE : kErr c s m k = 0
 ·right
  simp only [hE, ne_eq, not_true_eq_false, if_false]
  cases hB : admB c s m
  ·left; simp
  ·right
   simp only [Bool.true_eq_false, if_false]
   exact ⟨trivial, trivial, adm_of (by omega) hE hB, (kErr_zero hE).2.1, adm_status (kErr_zero hE).1 (kErr_zero hE).2.2, trivial, trivial⟩
 ·left
  exact ⟨hE, by rw [if_pos hE], by rw [if_pos hE]⟩
theorem e_ref12_Recovery (c : Cfg) (s : State) (m : Msg) (hs : Small2 s) (hm : SmallM m) (hn : 2097157 < n) :
  runFn T n (d + 11) 20 [.dat (encCfg c), .dat (encS s), .dat (encM m)] [] = some (.tup [.dat (encS (rCallS 9 c s m)), .dat (encSds (rCallL 9 c s m)), .dat (di (kErr c s m 9))], []) := by
 have h1 := e_ref10_Head (n := n) (d := d + 1) 9 c s m hs.toSmall (by have := hm.log; omega) (by omega)
 rcases call_ways (k := 9) (by simp) c s m with ⟨k1, k2, k3⟩ | ⟨k1, k2, k3, k4⟩ | ⟨k1, k2, a, kk, ks, k3, k4⟩
 ·rw [k2, k3]
  rw [if_neg k1, if_neg k1] at h1
  generalize kErr c s m 9 = E at *
  unfold zeroS at *
  rw [runFn_succ]
  simp (maxSteps := 1000000) [T, xf_ref12_Recovery, h1]
 ·rw [k3, k4, k1]
  have hmo : moreB c s m = false := by unfold moreB; rw [k2]; rfl
  rw [if_pos k1, if_pos k1, k1, hmo] at h1
  generalize admS c s m = t at *
  rw [runFn_succ]
  simp (maxSteps := 1000000) [T, xf_ref12_Recovery, h1]
 ·have hsm := hs.adm (kErr_zero k1).1 (kErr_zero k1).2.2
  rw [k3, k4, k1]
  rw [if_pos k1, if_pos k1, k1] at h1
  generalize admS c s m = t at *
  show runFn T n (d + 11) 20 [.dat (encCfg c), .dat (encS s), .dat (encM m)] [] = some (.tup [.dat (encS t), .dat (encSds (rL9 c t m)), .dat (di 0)], [])
  unfold rL9
  by_cases q3 : s.status = 3
  ·have hmo : moreB c s m = false := by unfold moreB; rw [k2, decide_eq_true q3]; rfl
   rw [hmo] at h1
   rw [if_neg (by omega)]
   rw [runFn_succ]
   simp (maxSteps := 1000000) [T, xf_ref12_Recovery, h1]
  ·have hmo : moreB c s m = true := by unfold moreB; rw [k2, decide_eq_false q3]; rfl
   rw [hmo] at h1
   have nr := e_ref12_normal (n := n) (d := d + 9) t
   by_cases q1 : t.status = 1
   ·rw [if_pos q1]
    rw [decide_eq_true q1] at nr
    have ld := e_ref10_Leads (n := n) (d := d + 9) c t a.cf (head_of a.ok).2.2.1
    rw [decide_eq_true q1, Bool.true_and] at ld
    have hmr : SmallM (rrM c t m) := ⟨by unfold rrM; simp only; split; exact hsm.log2; simp, by simp [rrM, zeroM]⟩
    have h2 := e_ref12_one (n := n) (d := d + 1) c t m.node (rrM c t m) hsm hmr (by omega)
    have hz : ByteArray.empty = ⟨#[]⟩ := rfl
    have hv0 : encV [] = .sl 2 true [] := rfl
    have hl0 : encLog [] = .sl 5 true [] := rfl
    generalize oneS c t m.node (rrM c t m) = x at *
    unfold encM cellsM at h2
    by_cases p : primaryOf c t.view = t.self
    ·rw [decide_eq_true p] at ld
     simp only [rrM, zeroM, p, if_true, hz, hv0] at h2
     rw [runFn_succ]
     simp (maxSteps := 1000000) [T, xf_ref12_Recovery, h1, nr, ld, h2]
    ·rw [decide_eq_false p] at ld
     simp only [rrM, zeroM, p, if_false, hz, hv0, hl0] at h2
     rw [runFn_succ]
     simp (maxSteps := 1000000) [T, xf_ref12_Recovery, h1, nr, ld, h2]
   ·rw [if_neg q1]
    rw [decide_eq_false q1] at nr
    rw [runFn_succ]
    simp (maxSteps := 1000000) [T, xf_ref12_Recovery, h1, nr]
end Go.Ax
namespace Go.Ax
set_option linter.all false
variable {n d : Nat}
set_option maxRecDepth 10000
set_option maxHeartbeats 16000000
end Go.Ax
namespace Go.Ax
set_option linter.all false
variable {n d : Nat}
set_option maxRecDepth 10000
set_option maxHeartbeats 8000000
theorem one1_small {c : Cfg} {s : State} {to : Int} {m : Msg} (hs : Small2 s) (hm : SmallM m) : SmallL [oneS c s to m] := ⟨by simp, fun x hx => by rw [List.mem_singleton.1 hx]; exact oneS_small hs hm⟩
theorem rr_small {c : Cfg} {s : State} {m : Msg} (hs : Small2 s) : SmallM (rrM c s m) := by
 refine ⟨?_, by simp [rrM, zeroM]⟩
 unfold rrM
 simp only
 split
 ·exact hs.log2
 ·simp
theorem ns_small {s : State} (hs : Small2 s) : SmallM (nsM s) := ⟨hs.log2, by simp [nsM, zeroM]⟩
theorem takeL_small {c : Cfg} {s : State} {view commit : Int} {log : List Ent} (hs : Small2 s) (hl : log.length ≤ 1048576) : SmallL (takeL c s view log commit) := by
 unfold takeL
 split
 ·exact one1_small (take_small hs hl) ⟨by simp [pokM, zeroM], by simp [pokM, zeroM]⟩
 ·exact SmallL.nil
theorem heard_small {c : Cfg} {s t : State} {m : Msg} (hs : Small2 t) (hm : SmallM m) (a : Adm c s m t) : Small2 (heardS t m) := by
 have h1 := putAns_small (t := t) (m := m) hs hm
 have h2 := (nodes_short a.ok).2.2.2
 exact ⟨⟨hs.log, hs.vector, hs.acks, hs.marks, hs.ballots, by unfold heardS; simp only; omega, hs.blogs, fun b hb => by have := h1.2 b hb; omega⟩, hs.log2, hs.vector2, hs.blogs2, h1.2⟩
theorem r10_small {c : Cfg} {s t : State} {m : Msg} (hs : Small2 t) (hm : SmallM m) (a : Adm c s m t) : Small2 (rS10 c t m) ∧ SmallL (rL10 c t m) := by
 have hh := heard_small hs hm a
 unfold rS10 rL10
 split
 ·exact ⟨hs, SmallL.nil⟩
 ·cases hx : settle c.f (heardS t m).answers with
  | none => exact ⟨hh, SmallL.nil⟩
  | some x =>
   have hl := hh.alogs2 x (settle_mem hx).1
   exact ⟨take_small hh hl, takeL_small hh hl⟩
theorem r12_small {c : Cfg} {t : State} {m : Msg} (hs : Small2 t) (hm : SmallM m) : Small2 (rS12 c t m) ∧ SmallL (rL12 c t m) := by
 unfold rS12 rL12
 split
 ·exact ⟨hs, SmallL.nil⟩
 ·exact ⟨take_small hs hm.log, takeL_small hs hm.log⟩
theorem r9_small {c : Cfg} {t : State} {m : Msg} (hs : Small2 t) : SmallL (rL9 c t m) := by
 unfold rL9
 split
 ·exact one1_small hs (rr_small hs)
 ·exact SmallL.nil
theorem r11_small {c : Cfg} {t : State} {m : Msg} (hs : Small2 t) : SmallL (rL11 c t m) := by
 unfold rL11
 split
 ·exact one1_small hs (ns_small hs)
 ·exact SmallL.nil
theorem rCall_small {k : Int} (hk : k = 9 ∨ k = 10 ∨ k = 11 ∨ k = 12) {c : Cfg} {s : State} {m : Msg} (hs : Small2 s) (hm : SmallM m) : Small2 (rCallS k c s m) ∧ SmallL (rCallL k c s m) := by
 rcases call_ways hk c s m with ⟨_, e1, e2⟩ | ⟨q, _, e1, e2⟩ | ⟨q, _, a, _, _, e1, e2⟩
 ·rw [e1, e2]; exact ⟨zeroS_small2, SmallL.nil⟩
 ·rw [e1, e2]; exact ⟨hs.adm (kErr_zero q).1 (kErr_zero q).2.2, SmallL.nil⟩
 ·have h2 := hs.adm (kErr_zero q).1 (kErr_zero q).2.2
  rw [e1, e2]
  rcases hk with rfl | rfl | rfl | rfl
  ·exact ⟨h2, r9_small h2⟩
  ·exact r10_small h2 hm a
  ·exact ⟨h2, r11_small h2⟩
  ·exact r12_small h2 hm
theorem e_same12 (S : State) (L : List Send) (e : Int) (hS : Small S) (hL : SmallL L) (hn : 1048577 < n) : runFn T n (d + 4) 15 [.dat (encS S), .dat (encSds L), .dat (di e), .dat (encS S), .dat (encSds L), .dat (di e)] [] = some (.dat (.bool true), []) := by
 have h2 := e_plain_SameState (n := n) (d := d) S hS hn
 have h3 := e_plain_SameSends (n := n) (d := d) L (by have := hL.1; omega) hL.2 hn
 rw [runFn_succ]
 simp [T, xf_law12_same, h2, h3]
theorem works12 : runFn T 2097158 14 16 [] [] = some (.dat (.bool true), []) := by kernel_rfl
end Go.Ax
namespace Go.Ax
set_option linter.all false
variable {n d : Nat}
set_option maxRecDepth 10000
set_option maxHeartbeats 8000000
theorem law_RejoinRecoveries (c : Cfg) (s : State) (m : Msg) (hs : Small2 s) (hm : SmallM m) (hN : ∀ x ∈ s.vector, Nn x) (hn : 2097157 < n) (hal : runFn T n (d + 14) 16 [] [] = some (.dat (.bool true), [])) :
  ∃ H, runFn T n (d + 15) 4 [.dat (encCfg c), .dat (encS s), .dat (encM m)] [] = some (.dat (.bool true), H) := by
 have g := e_Given_State (n := n) (d := d + 11) s hs (by omega)
 have hgl : (gsE1 s s.answers).length ≤ 6000000 ∧ 0 < (gsE1 s s.answers).length := by
  have hb := hs.ballots
  have ha := hs.answers
  constructor
  ·simp [gsE1]; omega
  ·simp [gsE1]
 have g2 := e_Given_Msg (n := n) (d := d + 11) m hm [rD s.vector] (gsE1 s s.answers) [encS s] (by simp) (by simp) hgl.1 hgl.2 (by simp)
 have o1 := e_rejoin_Recovery (n := n) (d := d + 3) c s m hs hm hN hn
 have o2 := e_ref12_Recovery (n := n) (d := d + 3) c s m hs hm hn
 obtain ⟨sm1, sm2⟩ := rCall_small (k := 9) (by omega) (c := c) (m := m) hs hm
 have s1 := e_same12 (n := n) (d := d + 10) (rCallS 9 c s m) (rCallL 9 c s m) (kErr c s m 9) sm1.toSmall sm2 (by omega)
 have hin := e_Intact2 (n := n) (d := d + 10) s m hs hm hn
 unfold givAV givH at g
 simp only [List.length_cons, List.length_nil, Nat.zero_add] at g2
 generalize rCallS 9 c s m = X at o1 o2 s1
 generalize rCallL 9 c s m = L at o1 o2 s1
 generalize kErr c s m 9 = K at o1 o2 s1
 rw [runFn_succ]
 simp [T, xf_law12_RejoinRecoveries, g, g2, o1, o2, s1, hin, hal]
end Go.Ax
