/-
  Which log goes on: the program's choice and the document's, evaluated.
-/
import Derived.Test.YtfoglingdnhjpaaGreatDoorPA
import Derived.Test.YtfoglingdnhjpaaGreatDoorME
import Derived.Test.YtfoglingdnhjpaaGreatDoorEC
import Derived.Test.YtfoglingdnhjpaaGreatDoorQG
import Derived.Test.YtfoglingdnhjpaaGreatDoorEF
namespace Go.Ax
set_option linter.all false
variable {n d : Nat}
set_option maxRecDepth 10000
set_option maxHeartbeats 8000000
end Go.Ax
namespace Go.Ax
set_option linter.all false
variable {n d : Nat}
set_option maxRecDepth 10000
set_option maxHeartbeats 8000000
end Go.Ax
namespace Go.Ax
set_option linter.all false
set_option maxRecDepth 10000
set_option maxHeartbeats 4000000
def VL (u : State) (l : List Mark) : Prop := (∀ m ∈ l, -1 < m.node ∧ m.node < u.vector.length ∧ m.node ≠ u.self ∧ u.vector.getD m.node.toNat ⟨0, 0⟩ = m.draw) ∧ l.Pairwise (fun x y => x.node < y.node)
theorem votedVL (u : State) : votedOk u = true ↔ VL u (u.acks.map ackM) ∧ VL u u.marks ∧ VL u (u.ballots.map balM) ∧ VL u (u.answers.map ansM) := by
 simp only [votedOk, mkList, List.all_cons, List.all_nil, Bool.and_true, Bool.and_eq_true, Option.isNone_iff_eq_none, firstBad_none]
 exact Iff.rfl
theorem VL.nil {u : State} : VL u [] := by unfold VL; simp
theorem msg_rest {c : Cfg} {m : Msg} (h : msgErr c m = 0) : restOk c m = true := by
 unfold msgErr at h
 by_cases hc : cfgOk c
 ·rw [if_pos hc] at h
  by_cases hk : 1 ≤ m.kind ∧ m.kind ≤ 14
  ·rw [if_pos hk] at h
   cases hm : msgOk c m
   ·rw [hm] at h; simp at h
   ·unfold msgOk at hm
    simp only [Bool.and_eq_true] at hm
    exact hm.2.2
  ·rw [if_neg hk] at h; simp at h
 ·rw [if_neg hc] at h; simp at h
theorem status_of {c : Cfg} {s : State} (h : stateErr c s = 0) : s.status = 1 ∨ s.status = 2 ∨ s.status = 3 := by
 rw [stateErr_iff] at h
 obtain ⟨_, _, _, _, hb⟩ := h
 unfold bodyOk at hb
 split at hb
 ·exact .inl (by assumption)
 ·split at hb
  ·exact .inr (.inl (by assumption))
  ·split at hb
   ·exact .inr (.inr (by assumption))
   ·cases hb
structure Goes (c : Cfg) (t : State) (m : Msg) : Prop where
 ok : stateErr c t = 0
 me : msgErr c m = 0
 st : t.status ≠ 3
 ns : ¬ stale t m
theorem Goes.view {c : Cfg} {t : State} {m : Msg} (g : Goes c t m) : (firstS2 c t m).view = m.view := by
 have h := g.ns
 unfold stale at h
 unfold firstS2
 split
 ·rfl
 ·omega
theorem Goes.first {c : Cfg} {t : State} {m : Msg} (g : Goes c t m) : stateErr c (firstS2 c t m) = 0 := by
 obtain ⟨_, _, _, _, gv, _⟩ := msg_nums g.me
 unfold firstS2
 split
 ·exact go_ok g.ok ⟨by assumption, gv⟩
 ·exact g.ok
theorem Goes.status {c : Cfg} {t : State} {m : Msg} (g : Goes c t m) : (firstS2 c t m).status = 2 := by
 have h := g.ns
 have h3 := g.st
 have hs := status_of g.ok
 unfold stale at h
 unfold firstS2
 split
 ·rfl
 ·omega
theorem zeroOk {c : Cfg} {u : State} (hc : cfgOk c) (h1 : 0 ≤ u.self ∧ u.self < nodesOf c) (h2 : 0 ≤ u.view ∧ u.view ≤ 4294967296) (h3 : u.last = u.view) (h4 : u.idle = 0) (h5 : (u.vector.length : Int) = nodesOf c) (hl : logOk c u.log u.commit = true) (h6 : u.acks = [] ∧ u.marks = [] ∧ u.ballots = [] ∧ u.answers = []) (h7 : u.status = 1) : stateErr c u = 0 := by
 rw [stateErr_iff]
 have hc' := hc
 unfold cfgOk at hc'
 refine ⟨hc, ?_, hl, ?_, ?_⟩
 ·unfold headOff
  simp only [Bool.or_eq_false_iff, decide_eq_false_iff_not, Bool.not_eq_false', decide_eq_true_eq]
  refine ⟨⟨⟨⟨⟨⟨⟨⟨by omega, by omega⟩, by omega⟩, by omega⟩, by omega⟩, by omega⟩, by omega⟩, by omega⟩, h5⟩
 ·rw [votedVL, h6.1, h6.2.1, h6.2.2.1, h6.2.2.2]
  exact ⟨VL.nil, VL.nil, VL.nil, VL.nil⟩
 ·unfold bodyOk
  rw [if_pos h7]
  unfold normalOk
  simp [h3, h4, h6]
theorem head_of {c : Cfg} {s : State} (h : stateErr c s = 0) : cfgOk c ∧ (0 ≤ s.self ∧ s.self < nodesOf c) ∧ (0 ≤ s.view ∧ s.view ≤ 4294967296) ∧ (s.vector.length : Int) = nodesOf c ∧ logOk c s.log s.commit = true := by
 rw [stateErr_iff] at h
 obtain ⟨hc, hh, hl, _⟩ := h
 unfold headOff at hh
 simp only [Bool.or_eq_false_iff, decide_eq_false_iff_not, Bool.not_eq_false', decide_eq_true_eq] at hh
 obtain ⟨⟨⟨⟨⟨⟨⟨⟨h1, h2⟩, h3⟩, h4⟩, h5⟩, h6⟩, h7⟩, h8⟩, h9⟩ := hh
 exact ⟨hc, ⟨by omega, by omega⟩, ⟨by omega, by omega⟩, h9, hl⟩
theorem logOk_iff (c : Cfg) (l : List Ent) (k : Int) : logOk c l k = true ↔ logErr l c.room = 0 ∧ 0 ≤ k ∧ k ≤ l.length := by
 unfold logOk
 simp only [Bool.and_eq_true, decide_eq_true_eq]
 exact ⟨fun h => ⟨h.1.1, h.1.2, h.2⟩, fun h => ⟨⟨h.1, h.2.1⟩, h.2.2⟩⟩
end Go.Ax
namespace Go.Ax
set_option linter.all false
set_option maxRecDepth 10000
set_option maxHeartbeats 4000000
end Go.Ax
namespace Go.Ax
set_option linter.all false
set_option maxRecDepth 10000
set_option maxHeartbeats 4000000
end Go.Ax
namespace Go.Ax
set_option linter.all false
set_option maxRecDepth 10000
set_option maxHeartbeats 4000000
theorem NN_of {c : Cfg} (h : cfgOk c) : nodesOf c = NN c := by unfold nodesOf; rw [if_pos h]
structure Head (c : Cfg) (X : State) : Prop where
 cfg : cfgOk c
 self : 0 ≤ X.self ∧ X.self < NN c
 view : 1 ≤ X.view ∧ X.view ≤ 4294967296
 last : 0 ≤ X.last
 vec : (X.vector.length : Int) = NN c
 log : logErr X.log c.room = 0 ∧ 0 ≤ X.commit ∧ X.commit ≤ X.log.length
theorem Head.of {c : Cfg} {X : State} (h : stateErr c X = 0) (hv : 1 ≤ X.view) : Head c X := by
 obtain ⟨hc, h1, h2, h3, h4⟩ := head_of h
 rw [NN_of hc] at h1 h3
 have hl : 0 ≤ X.last := by
  rw [stateErr_iff] at h
  obtain ⟨_, hh, _⟩ := h
  simp [headOff] at hh
  omega
 exact ⟨hc, h1, ⟨hv, h2.2⟩, hl, h3, (logOk_iff _ _ _).1 h4⟩
structure LedV (a : Led) : Prop where
 nx : 0 ≤ a.nx ∧ a.nx ≤ 1024
 len : a.L.length ≤ 1024
 ent : ∀ x ∈ a.L, 0 ≤ x.1 ∧ x.1 < 1024 ∧ (x.2.size : Int) ≤ 64
theorem lookL_mem : ∀ {L : List (Int × ByteArray)} {k : Int} {v : ByteArray}, lookL L k = some v → (k, v) ∈ L
 | [], k, v, h => by cases h
 | (a, b) :: r, k, v, h => by
  simp only [lookL] at h
  split at h
  ·rename_i e
   injection h with h
   subst e h
   simp
  ·exact List.mem_cons_of_mem _ (lookL_mem h)
theorem mcount_le : ∀ (l : List (Int × Dat)), mcount l ≤ l.length
 | [] => by simp [mcount]
 | x :: r => by
  have := mcount_le r
  simp only [mcount, List.length_cons]
  split <;> omega
theorem op_value {o : LOp} (h : opErr o = 0) : (o.kind = 1 ∨ o.kind = 2) → (o.value.size : Int) ≤ 64 := by
 intro hk
 unfold opErr at h
 split at h
 ·split at h
  ·cases h
  ·split at h
   ·cases h
   ·omega
 ·split at h
  ·split at h
   ·cases h
   ·split at h
    ·cases h
    ·omega
  ·cases h
theorem would_ok {L : List (Int × ByteArray)} {nx : Int} {o : LOp} (hv : LedV ⟨[], L, nx⟩) (h : opErr o = 0) : answersOk (wouldR L nx o) = true ∧ (wouldR L nx o).code ≠ 7 ∧ ((wouldR L nx o).code = 1 → 0 ≤ (wouldR L nx o).slot ∧ (wouldR L nx o).slot < 1024 ∧ ((wouldR L nx o).value.size : Int) ≤ 64) := by
 obtain ⟨h1, h2, h3⟩ := hv
 simp only at h1 h2 h3
 have hval := op_value h
 rcases op_cases h with ⟨k, s1, s2⟩ | ⟨k, s1⟩ | ⟨k, s1, s2⟩ | ⟨k, s1⟩
 ·have hv1 := hval (.inl k)
  cases hl : lookL L o.slot with
  | none =>
   have hw : wouldR L nx o = ⟨1, o.slot, o.value⟩ := by unfold wouldR; rw [if_pos k, hl]
   rw [hw]; simp [answersOk]; omega
  | some v =>
   have hw : wouldR L nx o = ⟨2, o.slot, v⟩ := by unfold wouldR; rw [if_pos k, hl]
   have := h3 _ (lookL_mem hl)
   rw [hw]; simp at this; simp [answersOk]; omega
 ·have hv1 := hval (.inr k)
  by_cases q : nx = 1024
  ·have hw : wouldR L nx o = ⟨3, 0, ByteArray.empty⟩ := by unfold wouldR; rw [if_neg (show ¬ o.kind = 1 by omega), if_pos k, if_pos q]
   rw [hw]; simp [answersOk]
  ·have hw : wouldR L nx o = ⟨1, nx, o.value⟩ := by unfold wouldR; rw [if_neg (show ¬ o.kind = 1 by omega), if_pos k, if_neg q]
   rw [hw]; simp [answersOk]; omega
 ·cases hl : lookL L o.slot with
  | none =>
   have hw : wouldR L nx o = ⟨5, o.slot, ByteArray.empty⟩ := by unfold wouldR; rw [if_neg (show ¬ o.kind = 1 by omega), if_neg (show ¬ o.kind = 2 by omega), if_pos k, hl]
   rw [hw]; simp [answersOk]; omega
  | some v =>
   have hw : wouldR L nx o = ⟨4, o.slot, v⟩ := by unfold wouldR; rw [if_neg (show ¬ o.kind = 1 by omega), if_neg (show ¬ o.kind = 2 by omega), if_pos k, hl]
   have := h3 _ (lookL_mem hl)
   rw [hw]; simp at this; simp [answersOk]; omega
 ·have hw : wouldR L nx o = ⟨6, countL L, ByteArray.empty⟩ := by unfold wouldR; rw [if_neg (show ¬ o.kind = 1 by omega), if_neg (show ¬ o.kind = 2 by omega), if_neg (show ¬ o.kind = 3 by omega)]
  have : countL L ≤ 1024 := by
   have := mcount_le (encLd L)
   unfold countL
   simp at this
   omega
  rw [hw]; simp [answersOk]; omega
theorem LedV.step {a : Led} {e : Ent} (h : LedV a) (hl : a.L.length < 1024) (he : opErr e.op = 0) : LedV (stepR a e) := by
 obtain ⟨h1, h2, h3⟩ := h
 obtain ⟨w1, w2, w3⟩ := would_ok (L := a.L) (nx := a.nx) ⟨h1, h2, h3⟩ he
 refine ⟨?_, ?_, ?_⟩
 ·simp only [stepR, doN]
  split
  ·rename_i hc; have := w3 hc; omega
  ·exact h1
 ·simp only [stepR, doL]
  split
  ·simp only [List.length_cons]; omega
  ·exact h2
 ·simp only [stepR, doL]
  split
  ·rename_i hc
   intro x hx
   rcases List.mem_cons.1 hx with rfl | hx
   ·exact w3 hc
   ·exact h3 x hx
  ·exact h3
structure RightM (c : Cfg) (X : State) (x : Send) : Prop where
 err : msgErr c x.msg = 0
 node : x.msg.node = X.self
 view : x.msg.view = X.view
 ne : x.to ≠ X.self
 rep : x.msg.kind = 2 → x.to = 7 + x.msg.entry.client
 oth : x.msg.kind ≠ 2 → 0 ≤ x.to ∧ x.to < nodesOf c ∧ x.msg.vector = X.vector
end Go.Ax
namespace Go.Ax
set_option linter.all false
set_option maxRecDepth 10000
set_option maxHeartbeats 4000000
theorem RightM.congr {c : Cfg} {X Y : State} {x : Send} (h : RightM c X x) (h1 : X.self = Y.self) (h2 : X.view = Y.view) (h3 : X.vector = Y.vector) : RightM c Y x :=
 ⟨h.err, by rw [← h1]; exact h.node, by rw [← h2]; exact h.view, by rw [← h1]; exact h.ne, h.rep, by rw [← h3]; exact h.oth⟩
theorem primary_in {c : Cfg} {v : Int} (hc : cfgOk c) (hv : 0 ≤ v ∧ v ≤ 4294967296) : 0 ≤ primaryOf c v ∧ primaryOf c v < nodesOf c ∧ primaryOf c v = v.tmod (NN c) := by
 have hc' := hc
 unfold cfgOk at hc'
 unfold primaryOf nodesOf
 rw [if_pos ⟨hc, hv⟩, if_pos hc]
 refine ⟨Int.tmod_nonneg _ hv.1, Int.tmod_lt_of_pos _ (by omega), rfl⟩
end Go.Ax
