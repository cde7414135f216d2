/-
  A state stays one that may be: plain.
-/
import Derived.Test.YtfoglingdnhjpaaGreatDoorME
import Derived.Test.YtfoglingdnhjpaaGreatDoorED
import Derived.Test.YtfoglingdnhjpaaGreatDoorEF
namespace Go.Ax
set_option linter.all false
set_option maxRecDepth 10000
set_option maxHeartbeats 4000000
theorem firstBad_none (s : State) : ∀ (l : List Mark) (a : Int), firstBad s a l = none ↔ (∀ m ∈ l, a < m.node ∧ m.node < s.vector.length ∧ m.node ≠ s.self ∧ s.vector.getD m.node.toNat ⟨0, 0⟩ = m.draw) ∧ l.Pairwise (fun x y => x.node < y.node)
 | [], a => by simp [firstBad]
 | x :: r, a => by
  simp only [firstBad]
  have ih := firstBad_none s r x.node
  by_cases hb : badV s a x = true
  ·rw [if_pos hb]
   constructor
   ·intro h; cases h
   ·rintro ⟨h, _⟩
    obtain ⟨h1, h2, h3, h4⟩ := h x (by simp)
    unfold badV at hb
    rw [decide_eq_false (by omega), decide_eq_false (by omega), decide_eq_false h3, decide_eq_true h4] at hb
    cases hb
  ·rw [if_neg hb, ih, List.pairwise_cons]
   have hx : a < x.node ∧ x.node < s.vector.length ∧ x.node ≠ s.self ∧ s.vector.getD x.node.toNat ⟨0, 0⟩ = x.draw := by
    unfold badV at hb
    simp only [Bool.or_eq_true, Bool.not_eq_true', decide_eq_true_eq, decide_eq_false_iff_not, not_or, Classical.not_not] at hb
    obtain ⟨⟨⟨h1, h2⟩, h3⟩, h4⟩ := hb
    exact ⟨by omega, by omega, h3, h4⟩
   constructor
   ·rintro ⟨h1, h2⟩
    refine ⟨fun m hm => ?_, fun m hm => (h1 m hm).1, h2⟩
    rcases List.mem_cons.1 hm with rfl | hm
    ·exact hx
    ·have := h1 m hm; exact ⟨by omega, this.2⟩
   ·rintro ⟨h1, h2, h3⟩
    exact ⟨fun m hm => ⟨h2 m hm, (h1 m (by simp [hm])).2⟩, h3⟩
structure Up (s : State) (v : List Draw) : Prop where
 len : v.length = s.vector.length
 kept : ∀ k, k < s.vector.length → 0 ≤ cmp (s.vector.getD k ⟨0, 0⟩) (v.getD k ⟨0, 0⟩) → v.getD k ⟨0, 0⟩ = s.vector.getD k ⟨0, 0⟩
 own : v.getD s.self.toNat ⟨0, 0⟩ = s.vector.getD s.self.toNat ⟨0, 0⟩
theorem voted_filter {s : State} {v : List Draw} (hu : Up s v) {l : List Mark} (h : firstBad s (-1) l = none) {s' : State} (h1 : s'.vector = v) (h2 : s'.self = s.self) : firstBad s' (-1) (l.filter (fun x => lives v x.node x.draw)) = none := by
 rw [firstBad_none] at h ⊢
 refine ⟨fun m hm => ?_, List.Pairwise.filter _ h.2⟩
 rw [List.mem_filter] at hm
 obtain ⟨q1, q2, q3, q4⟩ := h.1 m hm.1
 rw [h1, h2, hu.len]
 refine ⟨q1, q2, q3, ?_⟩
 rw [← q4]
 refine hu.kept _ (by omega) ?_
 have := hm.2
 unfold lives at this
 rw [← q4] at this
 exact of_decide_eq_true this
theorem isNone_filter {α : Type} (p q : α → Bool) (l : List α) (h : (l.find? p).isNone = true) : ((l.filter q).find? p).isNone = true := by
 rw [Option.isNone_iff_eq_none, List.find?_eq_none] at h ⊢
 intro x hx
 exact h x (List.mem_filter.1 hx).1
theorem isEmpty_filter {α : Type} (q : α → Bool) (l : List α) (h : l.isEmpty = true) : (l.filter q).isEmpty = true := by
 rw [List.isEmpty_iff] at h ⊢
 rw [h]; rfl
theorem stateErr_iff (c : Cfg) (s : State) : stateErr c s = 0 ↔ cfgOk c ∧ headOff c s = false ∧ logOk c s.log s.commit = true ∧ votedOk s = true ∧ bodyOk c s = true := by
 unfold stateErr
 by_cases hc : cfgOk c
 ·rw [if_pos hc]
  unfold stateOk
  cases headOff c s <;> cases logOk c s.log s.commit <;> cases votedOk s <;> cases bodyOk c s <;> simp <;> exact hc
 ·rw [if_neg hc]
  simp [hc]
theorem struck_ok {c : Cfg} {s : State} {v : List Draw} (h : stateErr c s = 0) (hu : Up s v) : stateErr c (struck s v) = 0 := by
 rw [stateErr_iff] at h ⊢
 obtain ⟨hc, hh, hl, hv, hb⟩ := h
 refine ⟨hc, ?_, hl, ?_, ?_⟩
 ·unfold headOff at hh ⊢
  simp only [struck, hu.len]
  exact hh
 ·simp only [votedOk, mkList, List.all_cons, List.all_nil, Bool.and_true, Bool.and_eq_true, Option.isNone_iff_eq_none] at hv ⊢
  obtain ⟨q1, q2, q3, q4⟩ := hv
  simp only [struck]
  refine ⟨?_, ?_, ?_, ?_⟩
  ·have := voted_filter hu q1 (s' := struck s v) rfl rfl
   rw [List.filter_map] at this
   exact this
  ·exact voted_filter hu q2 (s' := struck s v) rfl rfl
  ·have := voted_filter hu q3 (s' := struck s v) rfl rfl
   rw [List.filter_map] at this
   exact this
  ·have := voted_filter hu q4 (s' := struck s v) rfl rfl
   rw [List.filter_map] at this
   exact this
 ·unfold bodyOk at hb ⊢
  show (if s.status = 1 then normalOk c (struck s v) else if s.status = 2 then changingOk c (struck s v) else if s.status = 3 then recoverOk c (struck s v) else false) = true
  by_cases s1 : s.status = 1
  ·rw [if_pos s1] at hb ⊢
   unfold normalOk at hb ⊢
   have hl2 : leads c (struck s v) = leads c s := rfl
   rw [hl2]
   simp only [struck, Bool.and_eq_true] at hb ⊢
   obtain ⟨⟨⟨⟨h1, h2⟩, h3⟩, h4⟩, h5⟩ := hb
   refine ⟨⟨⟨⟨h1, isEmpty_filter _ _ h2⟩, isEmpty_filter _ _ h3⟩, isEmpty_filter _ _ h4⟩, ?_⟩
   cases hl3 : leads c s
   ·rw [hl3] at h5
    simp only [Bool.false_eq_true, if_false] at h5 ⊢
    exact isEmpty_filter _ _ h5
   ·rw [hl3] at h5
    simp only [if_true, Bool.and_eq_true] at h5 ⊢
    exact ⟨isNone_filter _ _ _ h5.1, h5.2⟩
  ·rw [if_neg s1] at hb ⊢
   by_cases s2 : s.status = 2
   ·rw [if_pos s2] at hb ⊢
    unfold changingOk at hb ⊢
    have hl2 : leads c (struck s v) = leads c s := rfl
    have hl3 : badBal c (struck s v) = badBal c s := rfl
    rw [hl2, hl3]
    simp only [struck, Bool.and_eq_true, Bool.not_eq_true', Bool.or_eq_false_iff, Bool.not_eq_false', Bool.or_eq_true] at hb ⊢
    obtain ⟨⟨⟨⟨⟨h1, h2⟩, h3⟩, h4⟩, h5⟩, h6⟩ := hb
    refine ⟨⟨⟨⟨⟨h1, isEmpty_filter _ _ h2⟩, isEmpty_filter _ _ h3⟩, ?_⟩, ?_⟩, isNone_filter _ _ _ h6⟩
    ·have := List.length_filter_le (keepBallot v) s.ballots
     have h4' := of_decide_eq_false h4
     exact decide_eq_false (by omega)
    ·exact h5.imp id (isEmpty_filter _ _)
   ·rw [if_neg s2] at hb ⊢
    by_cases s3 : s.status = 3
    ·rw [if_pos s3] at hb ⊢
     have hg : selfDraw (struck s v) = selfDraw s := hu.own
     unfold recoverOk at hb ⊢
     rw [hg]
     unfold recHead at hb ⊢
     simp only [struck, Bool.and_eq_true, Bool.not_eq_true', Bool.or_eq_false_iff, Bool.not_eq_false'] at hb ⊢
     obtain ⟨⟨⟨⟨⟨⟨⟨⟨⟨h1, h2⟩, h3⟩, h4⟩, h5⟩, h6⟩, h7⟩, h8⟩, h9⟩, h10⟩ := hb
     exact ⟨⟨⟨⟨⟨⟨⟨⟨⟨h1, h2⟩, h3⟩, h4⟩, h5⟩, isEmpty_filter _ _ h6⟩, isEmpty_filter _ _ h7⟩, isEmpty_filter _ _ h8⟩, h9⟩, isNone_filter _ _ _ h10⟩
    ·rw [if_neg s3] at hb
     cases hb
theorem mxv_get {a b : List Draw} (h : b.length = a.length) {k : Nat} (hk : k < a.length) : (mxv a b).getD k ⟨0, 0⟩ = mxd (a.getD k ⟨0, 0⟩) (b.getD k ⟨0, 0⟩) := by
 have h1 : k < b.length := by omega
 have h2 : k < (List.zipWith mxd a b).length := by simp; omega
 simp only [mxv, List.getD, List.getElem?_eq_getElem hk, List.getElem?_eq_getElem h1, List.getElem?_eq_getElem h2, Option.getD_some, List.getElem_zipWith]
theorem up_mxv {c : Cfg} {s : State} {m : Msg} (hs : 0 ≤ s.self ∧ s.self < s.vector.length) (hl : m.vector.length = s.vector.length) (ha : aheadB s m = false) : Up s (mxv s.vector m.vector) := by
 refine ⟨by simp [mxv, hl], fun k hk h => ?_, ?_⟩
 ·rw [mxv_get hl hk] at h ⊢
  unfold mxd at h ⊢
  split
  ·rename_i hc; rw [if_pos hc] at h; omega
  ·rfl
 ·rw [mxv_get hl (by omega)]
  unfold mxd
  rw [if_neg]
  unfold aheadB at ha
  have := of_decide_eq_false ha
  rw [cmp_neg (s.vector.getD s.self.toNat ⟨0, 0⟩)] at this
  omega
theorem admS_cases {c : Cfg} {s : State} {m : Msg} (h : stateErr c s = 0) (hm : msgErr c m = 0) :
  (admS c s m = s ∧ (between m.kind = false ∧ admB c s m = true ∨ between m.kind = true ∧ (m.node = s.self ∧ admB c s m = false ∨ m.node ≠ s.self ∧ (c.unguarded = true ∧ admB c s m = true ∨ c.unguarded = false ∧ (overB s m = true ∨ aheadB s m = true) ∧ admB c s m = false)))) ∨
  (admS c s m = struck s (mxv s.vector m.vector) ∧ admB c s m = true ∧ between m.kind = true ∧ m.node ≠ s.self ∧ c.unguarded = false ∧ overB s m = false ∧ aheadB s m = false) := by
 have he : admErr c s m = 0 := by unfold admErr; rw [if_neg (by simp [h]), hm]
 unfold admS admB
 simp only [ne_eq, he, not_true_eq_false, if_false]
 cases hb : between m.kind
 ·left; simp
 ·by_cases q1 : m.node = s.self
  ·left; simp [q1]
  ·cases q2 : c.unguarded
   ·cases q3 : overB s m
    ·cases q4 : aheadB s m
     ·right; simp [q1]
     ·left; simp [q1]
    ·left; simp [q1]
   ·left; simp [q1]
theorem admS_ok {c : Cfg} {s : State} {m : Msg} (h : stateErr c s = 0) (hm : msgErr c m = 0) : stateErr c (admS c s m) = 0 := by
 rcases admS_cases h hm with ⟨e, _⟩ | ⟨e, _, hb, _, _, _, ha⟩
 ·rw [e]; exact h
 ·rw [e]
  obtain ⟨_, h1, h2, h3, _⟩ := nodes_ok h
  obtain ⟨h4, _⟩ := msg_ok hm hb
  exact struck_ok h (up_mxv (c := c) ⟨h2, by omega⟩ (by omega) ha)
end Go.Ax
namespace Go.Ax
set_option linter.all false
set_option maxRecDepth 10000
set_option maxHeartbeats 4000000
theorem cmp_self (x : Draw) : cmp x x = 0 := by unfold cmp; rw [if_pos rfl]
theorem cmp_zero {x y : Draw} (h : cmp x y = 0) : x = y := by
 unfold cmp at h
 split at h
 ·assumption
 ·split at h <;> simp at h
theorem cmp_lt_trans {x y z : Draw} (h1 : cmp x y < 0) (h2 : cmp y z < 0) : cmp x z < 0 := by
 cases x with
 | mk a b => cases y with
  | mk c e => cases z with
   | mk f g =>
    simp only [cmp, Draw.mk.injEq] at h1 h2 ⊢
    repeat' split at h1
    all_goals repeat' split at h2
    all_goals repeat' split
    all_goals omega
theorem cmp_le_trans {x y z : Draw} (h1 : cmp x y ≤ 0) (h2 : cmp y z ≤ 0) : cmp x z ≤ 0 := by
 by_cases e1 : cmp x y = 0
 ·rw [cmp_zero e1]; exact h2
 ·by_cases e2 : cmp y z = 0
  ·rw [← cmp_zero e2]; exact h1
  ·have := cmp_lt_trans (show cmp x y < 0 by omega) (show cmp y z < 0 by omega); omega
structure Later (s t : State) : Prop where
 self : t.self = s.self
 view : t.view = s.view
 commit : t.commit = s.commit
 status : t.status = s.status
 log : t.log = s.log
 len : t.vector.length = s.vector.length
 own : t.vector.getD s.self.toNat ⟨0, 0⟩ = s.vector.getD s.self.toNat ⟨0, 0⟩
 up : ∀ k, k < s.vector.length → cmp (s.vector.getD k ⟨0, 0⟩) (t.vector.getD k ⟨0, 0⟩) ≤ 0
theorem Later.refl (s : State) : Later s s := ⟨rfl, rfl, rfl, rfl, rfl, rfl, rfl, fun k _ => by rw [cmp_self]; omega⟩
theorem Later.trans {a b c : State} (h : Later a b) (g : Later b c) : Later a c :=
 ⟨g.self.trans h.self, g.view.trans h.view, g.commit.trans h.commit, g.status.trans h.status, g.log.trans h.log, g.len.trans h.len, by rw [← h.own, ← h.self]; exact g.own, fun k hk => cmp_le_trans (h.up k hk) (g.up k (by rw [h.len]; exact hk))⟩
end Go.Ax
namespace Go.Ax
set_option linter.all false
def putL {α : Type} (node : α → Int) (up : α → Bool) (v : α) : List α → List α
 | [] => [v]
 | x :: r => if node x = node v then (if up x then v else x) :: r else if node v < node x then v :: x :: r else x :: putL node up v r
theorem putL_same {α : Type} (node : α → Int) (up : α → Bool) (v : α) : ∀ (l : List α) (j : Nat) (hj : j < l.length), l.Pairwise (fun a b => node a < node b) → node l[j] = node v →
  putL node up v l = l.take j ++ (if up l[j] then v else l[j]) :: l.drop (j + 1)
 | [], j, hj, _, _ => by simp at hj
 | x :: r, 0, _, _, h => by
  simp only [List.getElem_cons_zero] at h
  simp only [putL, if_pos h, List.take_zero, List.nil_append, List.getElem_cons_zero, List.drop_succ_cons, List.drop_zero]
 | x :: r, j + 1, hj, hs, h => by
  rw [List.pairwise_cons] at hs
  simp only [List.getElem_cons_succ] at h
  have hj' : j < r.length := by simpa using hj
  have h1 := hs.1 r[j] (List.getElem_mem hj')
  simp only [putL, if_neg (show ¬ node x = node v by omega), if_neg (show ¬ node v < node x by omega), putL_same node up v r j hj' hs.2 h, List.take_succ_cons, List.cons_append, List.getElem_cons_succ, List.drop_succ_cons]
theorem putL_at {α : Type} (node : α → Int) (up : α → Bool) (v : α) : ∀ (l : List α) (j : Nat) (hj : j ≤ l.length), (∀ q (hq : q < l.length), q < j → node l[q] < node v) → (∀ hq : j < l.length, node v < node l[j]) →
  putL node up v l = l.take j ++ v :: l.drop j
 | [], j, hj, _, _ => by simp [putL]
 | x :: r, 0, _, _, h => by
  have := h (by simp)
  simp only [List.getElem_cons_zero] at this
  simp only [putL, if_neg (show ¬ node x = node v by omega), if_pos this, List.take_zero, List.nil_append, List.drop_zero]
 | x :: r, j + 1, hj, h1, h2 => by
  have h3 := h1 0 (by simp) (by omega)
  simp only [List.getElem_cons_zero] at h3
  have := putL_at node up v r j (by simpa using hj) (fun q hq hqj => by have := h1 (q + 1) (by simpa using hq) (by omega); simpa using this) (fun hq => by have := h2 (by simpa using hq); simpa using this)
  simp only [putL, if_neg (show ¬ node x = node v by omega), if_neg (show ¬ node v < node x by omega), this, List.take_succ_cons, List.cons_append, List.drop_succ_cons]
theorem putL_length {α : Type} (node : α → Int) (up : α → Bool) (v : α) : ∀ l : List α, (putL node up v l).length ≤ l.length + 1
 | [] => by simp [putL]
 | x :: r => by
  have := putL_length node up v r
  simp only [putL]
  split
  ·simp
  ·split
   ·simp
   ·simp only [List.length_cons]; omega
theorem putL_mem {α : Type} (node : α → Int) (up : α → Bool) (v : α) : ∀ (l : List α) (y : α), y ∈ putL node up v l → y = v ∨ y ∈ l
 | [], y, h => by simpa [putL] using h
 | x :: r, y, h => by
  simp only [putL] at h
  split at h
  ·rcases List.mem_cons.1 h with h | h
   ·split at h
    ·exact .inl h
    ·exact .inr (by simp [h])
   ·exact .inr (by simp [h])
  ·split at h
   ·rcases List.mem_cons.1 h with h | h
    ·exact .inl h
    ·exact .inr h
   ·rcases List.mem_cons.1 h with h | h
    ·exact .inr (by simp [h])
    ·rcases putL_mem node up v r y h with h | h
     ·exact .inl h
     ·exact .inr (by simp [h])
def putF {α : Type} (node : α → Int) (up : α → Bool) (v : α) (a : List α × Bool) (x : α) : List α × Bool :=
 if node x = node v then (a.1 ++ [if up x then v else x], true) else if node v < node x ∧ a.2 = false then (a.1 ++ [v, x], true) else (a.1 ++ [x], a.2)
theorem putF_done {α : Type} (node : α → Int) (up : α → Bool) (v : α) : ∀ (l : List α) (a : List α), (∀ x ∈ l, node v < node x) → l.foldl (putF node up v) (a, true) = (a ++ l, true)
 | [], a, _ => by simp
 | x :: r, a, h => by
  have h1 := h x (by simp)
  have : putF node up v (a, true) x = (a ++ [x], true) := by simp [putF, show ¬ node x = node v by omega]
  rw [List.foldl_cons, this, putF_done node up v r _ (fun y hy => h y (by simp [hy]))]
  simp
theorem putF_fold {α : Type} (node : α → Int) (up : α → Bool) (v : α) : ∀ (l : List α) (a : List α), l.Pairwise (fun a b => node a < node b) →
  (l.foldl (putF node up v) (a, false)).1 ++ (if (l.foldl (putF node up v) (a, false)).2 = true then [] else [v]) = a ++ putL node up v l
 | [], a, _ => by simp [putL]
 | x :: r, a, h => by
  rw [List.pairwise_cons] at h
  rw [List.foldl_cons]
  by_cases h1 : node x = node v
  ·have : putF node up v (a, false) x = (a ++ [if up x then v else x], true) := by simp [putF, h1]
   rw [this, putF_done node up v r _ (fun y hy => by have := h.1 y hy; omega)]
   simp [putL, h1]
  ·by_cases h2 : node v < node x
   ·have : putF node up v (a, false) x = (a ++ [v, x], true) := by simp [putF, h1, h2]
    rw [this, putF_done node up v r _ (fun y hy => by have := h.1 y hy; omega)]
    simp [putL, h1, h2]
   ·have : putF node up v (a, false) x = (a ++ [x], false) := by simp [putF, h1, h2]
    rw [this, putF_fold node up v r _ h.2]
    simp [putL, h1, h2]
end Go.Ax
namespace Go.Ax
set_option linter.all false
set_option maxRecDepth 10000
set_option maxHeartbeats 4000000
structure Votes (X : State) : Prop where
 acks : ∀ x ∈ X.acks, 0 ≤ x.node ∧ x.node < X.vector.length ∧ X.vector.getD x.node.toNat ⟨0, 0⟩ = x.draw
 marks : ∀ x ∈ X.marks, 0 ≤ x.node ∧ x.node < X.vector.length ∧ X.vector.getD x.node.toNat ⟨0, 0⟩ = x.draw
 ballots : ∀ x ∈ X.ballots, 0 ≤ x.node ∧ x.node < X.vector.length ∧ X.vector.getD x.node.toNat ⟨0, 0⟩ = x.draw
 answers : ∀ x ∈ X.answers, 0 ≤ x.node ∧ x.node < X.vector.length ∧ X.vector.getD x.node.toNat ⟨0, 0⟩ = x.draw
theorem votes_of {c : Cfg} {X : State} (h : stateErr c X = 0) : Votes X := by
 obtain ⟨_, _, _, hv, _⟩ := (stateErr_iff c X).1 h
 simp only [votedOk, mkList, List.all_cons, List.all_nil, Bool.and_true, Bool.and_eq_true, Option.isNone_iff_eq_none, firstBad_none] at hv
 obtain ⟨⟨q1, _⟩, ⟨q2, _⟩, ⟨q3, _⟩, q4, _⟩ := hv
 refine ⟨fun x hx => ?_, fun x hx => ?_, fun x hx => ?_, fun x hx => ?_⟩
 ·obtain ⟨a, b, _, e⟩ := q1 (ackM x) (List.mem_map.2 ⟨x, hx, rfl⟩); exact ⟨by simp only [ackM] at a; omega, b, e⟩
 ·obtain ⟨a, b, _, e⟩ := q2 x hx; exact ⟨by omega, b, e⟩
 ·obtain ⟨a, b, _, e⟩ := q3 (balM x) (List.mem_map.2 ⟨x, hx, rfl⟩); exact ⟨by simp only [balM] at a; omega, b, e⟩
 ·obtain ⟨a, b, _, e⟩ := q4 (ansM x) (List.mem_map.2 ⟨x, hx, rfl⟩); exact ⟨by simp only [ansM] at a; omega, b, e⟩
theorem adm_short {c : Cfg} {s : State} {m : Msg} (h : stateErr c s = 0) (hm : msgErr c m = 0) : (admS c s m).vector.length = s.vector.length ∧ (admS c s m).acks.length ≤ s.acks.length ∧ (admS c s m).marks.length ≤ s.marks.length ∧ (admS c s m).ballots.length ≤ s.ballots.length ∧ (admS c s m).answers.length ≤ s.answers.length := by
 rcases admS_cases h hm with ⟨e, _⟩ | ⟨e, _, hb, _, _, _, ha⟩
 ·rw [e]; exact ⟨rfl, Nat.le_refl _, Nat.le_refl _, Nat.le_refl _, Nat.le_refl _⟩
 ·obtain ⟨_, h1, _⟩ := nodes_ok h
  obtain ⟨h4, _⟩ := msg_ok hm hb
  rw [e]
  exact ⟨by simp [struck, mxv]; omega, List.length_filter_le _ _, List.length_filter_le _ _, List.length_filter_le _ _, List.length_filter_le _ _⟩
theorem Small2.adm {s : State} (hs : Small2 s) {c : Cfg} {m : Msg} (h : stateErr c s = 0) (hm : msgErr c m = 0) : Small2 (admS c s m) := by
 obtain ⟨h1, h2, h3, h4, h5⟩ := adm_short h hm
 have k := hs.toSmall
 have hb : ∀ b ∈ (admS c s m).ballots, b ∈ s.ballots := by
  rcases admS_cases h hm with ⟨e, _⟩ | ⟨e, _⟩ <;> rw [e] <;> intro b hb
  ·exact hb
  ·exact (List.mem_filter.1 hb).1
 have ha : ∀ b ∈ (admS c s m).answers, b ∈ s.answers := by
  rcases admS_cases h hm with ⟨e, _⟩ | ⟨e, _⟩ <;> rw [e] <;> intro b hb
  ·exact hb
  ·exact (List.mem_filter.1 hb).1
 have hl : (admS c s m).log = s.log := by
  rcases admS_cases h hm with ⟨e, _⟩ | ⟨e, _⟩ <;> rw [e] <;> rfl
 exact ⟨⟨by rw [hl]; exact k.log, by have := k.vector; omega, by have := k.acks; omega, by have := k.marks; omega, by have := k.ballots; omega, by have := k.answers; omega, fun b q => k.blogs b (hb b q), fun b q => k.alogs b (ha b q)⟩,
  by rw [hl]; exact hs.log2, by have := hs.vector2; omega, fun b q => hs.blogs2 b (hb b q), fun b q => hs.alogs2 b (ha b q)⟩
end Go.Ax
namespace Go.Ax
set_option linter.all false
set_option maxRecDepth 10000
set_option maxHeartbeats 4000000
def allR (c : Cfg) (s : State) (m : Msg) : List Send := if stateErr c s = 0 then allS c s m else []
def goS (s : State) (view : Int) : State := { s with status := 2, view := view, idle := 0, acks := [], marks := [], ballots := [], answers := [] }
def kErr (c : Cfg) (s : State) (m : Msg) (k : Int) : Int := if stateErr c s ≠ 0 then stateErr c s else if m.kind ≠ k then 70 else msgErr c m
def stale (t : State) (m : Msg) : Prop := m.view < t.view ∨ m.view = t.view ∧ t.status = 1
instance (t : State) (m : Msg) : Decidable (stale t m) := by unfold stale; infer_instance
def firstS2 (c : Cfg) (t : State) (m : Msg) : State := if t.view < m.view then goS t m.view else t
def drawAt (s : State) (k : Int) : Draw := s.vector.getD k.toNat ⟨0, 0⟩
def longerB (l : List Ent) (a : Int) (k : List Ent) (b : Int) : Bool := decide (k.length < l.length) || decide (l.length = k.length) && decide (b < a)
def pokM (view : Int) (log : List Ent) : Msg := { zeroM with kind := 4, view := view, place := log.length }
def waits (c : Cfg) (s : State) : Prop := ¬ (s.status = 3 ∨ s.status = 1 ∧ primaryOf c s.view = s.self)
instance (c : Cfg) (s : State) : Decidable (waits c s) := by unfold waits; infer_instance
theorem sorted_of {c : Cfg} {X : State} (h : stateErr c X = 0) : X.marks.Pairwise (fun a b => a.node < b.node) ∧ X.ballots.Pairwise (fun a b => a.node < b.node) ∧ X.acks.Pairwise (fun a b => a.node < b.node) ∧ X.answers.Pairwise (fun a b => a.node < b.node) ∧ (∀ b ∈ X.ballots, b.node ≠ X.self) := by
 obtain ⟨_, _, _, hv, _⟩ := (stateErr_iff c X).1 h
 simp only [votedOk, mkList, List.all_cons, List.all_nil, Bool.and_true, Bool.and_eq_true, Option.isNone_iff_eq_none, firstBad_none] at hv
 obtain ⟨⟨_, q1⟩, ⟨_, q2⟩, ⟨q5, q3⟩, _, q4⟩ := hv
 rw [List.pairwise_map] at q1 q3 q4
 exact ⟨q2, q3, q1, q4, fun b hb => (q5 (balM b) (List.mem_map.2 ⟨b, hb, rfl⟩)).2.2.1⟩
def key (b : Ballot) : Int × Nat := (b.last, b.log.length)
theorem putL_sorted {α : Type} (node : α → Int) (up : α → Bool) (v : α) : ∀ l : List α, l.Pairwise (fun a b => node a < node b) → (putL node up v l).Pairwise (fun a b => node a < node b)
 | [], _ => by simp [putL]
 | x :: r, h => by
  rw [List.pairwise_cons] at h
  simp only [putL]
  split
  ·rename_i he
   rw [List.pairwise_cons]
   refine ⟨fun y hy => ?_, h.2⟩
   have := h.1 y hy
   split <;> omega
  ·split
   ·rename_i hlt
    rw [List.pairwise_cons, List.pairwise_cons]
    refine ⟨fun y hy => ?_, h⟩
    rcases List.mem_cons.1 hy with rfl | hy
    ·exact hlt
    ·have := h.1 y hy; omega
   ·rename_i hne hlt
    rw [List.pairwise_cons]
    refine ⟨fun y hy => ?_, putL_sorted node up v r h.2⟩
    rcases putL_mem node up v r y hy with rfl | hy
    ·omega
    ·exact h.1 y hy
end Go.Ax
namespace Go.Ax
set_option linter.all false
set_option maxRecDepth 10000
set_option maxHeartbeats 4000000
theorem go_ok {c : Cfg} {s : State} {view : Int} (h : stateErr c s = 0) (hv : s.view < view ∧ view ≤ 4294967296) : stateErr c (goS s view) = 0 := by
 rw [stateErr_iff] at h ⊢
 obtain ⟨hc, hh, hl, _, _⟩ := h
 have hc' := hc
 unfold cfgOk at hc'
 have hh' := hh
 simp [headOff] at hh'
 refine ⟨hc, ?_, hl, by simp [votedOk, mkList, goS, firstBad], ?_⟩
 ·unfold headOff at hh ⊢
  simp only [Bool.or_eq_false_iff, decide_eq_false_iff_not, Bool.not_eq_false'] at hh ⊢
  simp only [goS]
  obtain ⟨⟨⟨⟨⟨⟨⟨⟨h1, h2⟩, h3⟩, h4⟩, h5⟩, h6⟩, h7⟩, h8⟩, h9⟩ := hh
  exact ⟨⟨⟨⟨⟨⟨⟨⟨h1, h2⟩, by omega⟩, by omega⟩, h5⟩, by omega⟩, by omega⟩, by omega⟩, h9⟩
 ·unfold bodyOk changingOk
  have h1 : ¬ view ≤ s.last := by omega
  have h2 : ¬ c.f ≤ 0 := by omega
  simp [goS, h1, h2]
theorem msg_nums {c : Cfg} {m : Msg} (h : msgErr c m = 0) : cfgOk c ∧ 0 ≤ m.node ∧ m.node < NN c ∧ 0 ≤ m.view ∧ m.view ≤ 4294967296 ∧ 0 ≤ m.commit ∧ 0 ≤ m.last ∧ numsTail c m = true := by
 unfold msgErr at h
 split at h
 ·rename_i hc
  split at h
  ·cases hm : msgOk c m
   ·rw [hm] at h; cases h
   ·unfold msgOk at hm
    simp only [Bool.and_eq_true] at hm
    have hn := hm.2.1
    unfold numsOk numsBase at hn
    simp only [Bool.and_eq_true, Bool.not_eq_true', decide_eq_false_iff_not] at hn
    obtain ⟨⟨⟨⟨⟨⟨⟨⟨h1, h2⟩, h3⟩, h4⟩, h5⟩, h6⟩, h7⟩, h8⟩, h9⟩ := hn
    exact ⟨hc, by omega, by omega, by omega, by omega, by omega, by omega, h9⟩
  ·cases h
 ·cases h
theorem incr_len {α : Type} (node : α → Int) (N : Int) : ∀ (l : List α) (a : Int), a ≤ N → (∀ x ∈ l, a ≤ node x ∧ node x < N) → l.Pairwise (fun x y => node x < node y) → (l.length : Int) ≤ N - a
 | [], a, h, _, _ => by simp; omega
 | x :: r, a, h, hm, hp => by
  rw [List.pairwise_cons] at hp
  have h1 := hm x (by simp)
  have := incr_len node N r (node x + 1) (by omega) (fun y hy => by have a := hp.1 y hy; have b := hm y (by simp [hy]); omega) hp.2
  simp only [List.length_cons]
  omega
theorem nodes_short {c : Cfg} {t : State} (h : stateErr c t = 0) : t.marks.length ≤ 7 ∧ t.ballots.length ≤ 7 ∧ t.acks.length ≤ 7 ∧ t.answers.length ≤ 7 := by
 obtain ⟨s1, s2, s3, s4, _⟩ := sorted_of h
 have hv := votes_of h
 obtain ⟨_, g1, _, _, gc⟩ := nodes_ok h
 unfold cfgOk at gc
 simp only [NN] at g1
 have k1 := incr_len (fun x : Mark => x.node) t.vector.length t.marks 0 (by omega) (fun x hx => ⟨(hv.marks x hx).1, (hv.marks x hx).2.1⟩) s1
 have k2 := incr_len (fun x : Ballot => x.node) t.vector.length t.ballots 0 (by omega) (fun x hx => ⟨(hv.ballots x hx).1, (hv.ballots x hx).2.1⟩) s2
 have k3 := incr_len (fun x : Ack => x.node) t.vector.length t.acks 0 (by omega) (fun x hx => ⟨(hv.acks x hx).1, (hv.acks x hx).2.1⟩) s3
 have k4 := incr_len (fun x : Answer => x.node) t.vector.length t.answers 0 (by omega) (fun x hx => ⟨(hv.answers x hx).1, (hv.answers x hx).2.1⟩) s4
 omega
end Go.Ax
namespace Go.Ax
set_option linter.all false
set_option maxRecDepth 10000
set_option maxHeartbeats 4000000
theorem kErr_zero {c : Cfg} {s : State} {m : Msg} {k : Int} (h : kErr c s m k = 0) : stateErr c s = 0 ∧ m.kind = k ∧ msgErr c m = 0 := by
 unfold kErr at h
 split at h
 ·rename_i g; exact absurd h g
 ·split at h
  ·simp at h
  ·rename_i g1 g2; exact ⟨by simpa using g1, by simpa using g2, h⟩
theorem adm_zero {c : Cfg} {s : State} {m : Msg} (he : stateErr c s = 0) (hm : msgErr c m = 0) : admErr c s m = 0 := by unfold admErr; rw [if_neg (by simp [he])]; exact hm
theorem admS_self {c : Cfg} {s : State} {m : Msg} (he : stateErr c s = 0) (hm : msgErr c m = 0) : (admS c s m).self = s.self := by
 unfold admS
 rw [if_neg (by simp [adm_zero he hm])]
 repeat' split
 all_goals rfl
theorem admB_node {c : Cfg} {s : State} {m : Msg} (h : admB c s m = true) (hk : between m.kind = true) : m.node ≠ s.self := by
 intro hq
 unfold admB at h
 simp [hk, hq] at h
theorem allS_len' {c : Cfg} {s : State} {m : Msg} : (allS c s m).length ≤ 100 := by
 obtain ⟨n1, n2⟩ := nodes_le (c := c)
 have key : ∀ (l : List Nat) (acc : List Send), (l.foldl (goTo s m) acc).length ≤ acc.length + l.length := by
  intro l
  induction l with
  | nil => intro acc; simp
  | cons i r ih =>
   intro acc
   have h3 : (goTo s m acc i).length ≤ acc.length + 1 := by unfold goTo; split <;> simp
   have := ih (goTo s m acc i)
   simp only [List.foldl_cons, List.length_cons]
   omega
 have := key (List.range (nodesOf c).toNat) []
 unfold allS
 simp at this
 omega
theorem between_kind {m : Msg} {k : Int} (h : m.kind = k) (hk : 3 ≤ k ∧ k ≤ 12) : between m.kind = true := by simp [between]; omega
end Go.Ax
