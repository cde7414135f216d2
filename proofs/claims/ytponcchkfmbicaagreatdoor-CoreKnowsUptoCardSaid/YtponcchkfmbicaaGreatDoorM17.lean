/-
  A state stays one that may be: plain.
-/
import Derived.Test.YtponcchkfmbicaaGreatDoorME
namespace Go.Ax
set_option linter.all false
set_option maxRecDepth 10000
set_option linter.unusedSimpArgs false
set_option maxHeartbeats 4000000

theorem firstBad_none (s : State) : ∀ (l : List Mark) (a : Int), firstBad s a l = none ↔ (∀ m ∈ l, a < m.node ∧ m.node < s.vector.length ∧ m.node ≠ s.self ∧ s.vector.getD m.node.toNat ⟨0, 0⟩ = m.draw) ∧ l.Pairwise (fun x y => x.node < y.node)
  | [], a => by simp [firstBad]
  | x :: r, a => by
    simp only [firstBad]
    have ih := firstBad_none s r x.node
    by_cases hb : badV s a x = true
    · rw [if_pos hb]
      constructor
      · intro h; cases h
      · rintro ⟨h, _⟩
        obtain ⟨h1, h2, h3, h4⟩ := h x (by simp)
        unfold badV at hb
        rw [decide_eq_false (by omega), decide_eq_false (by omega), decide_eq_false h3, decide_eq_true h4] at hb
        cases hb
    · rw [if_neg hb, ih, List.pairwise_cons]
      have hx : a < x.node ∧ x.node < s.vector.length ∧ x.node ≠ s.self ∧ s.vector.getD x.node.toNat ⟨0, 0⟩ = x.draw := by
        unfold badV at hb
        simp only [Bool.or_eq_true, Bool.not_eq_true', decide_eq_true_eq, decide_eq_false_iff_not, not_or, Classical.not_not] at hb
        obtain ⟨⟨⟨h1, h2⟩, h3⟩, h4⟩ := hb
        exact ⟨by omega, by omega, h3, h4⟩
      constructor
      · rintro ⟨h1, h2⟩
        refine ⟨fun m hm => ?_, fun m hm => (h1 m hm).1, h2⟩
        rcases List.mem_cons.1 hm with rfl | hm
        · exact hx
        · have := h1 m hm; exact ⟨by omega, this.2⟩
      · rintro ⟨h1, h2, h3⟩
        exact ⟨fun m hm => ⟨h2 m hm, (h1 m (by simp [hm])).2⟩, h3⟩
theorem firstBad_congr {s t : State} (hv : t.vector = s.vector) (hs : t.self = s.self) : ∀ (l : List Mark) (a : Int), firstBad t a l = firstBad s a l
  | [], _ => rfl
  | x :: r, a => by
    have h1 : badV t a x = badV s a x := by unfold badV; simp only [hv, hs]
    simp only [firstBad, h1, firstBad_congr hv hs r x.node]
theorem votedOk_congr {s t : State} (hv : t.vector = s.vector) (hs : t.self = s.self) (h1 : t.acks = s.acks) (h2 : t.marks = s.marks) (h3 : t.ballots = s.ballots) (h4 : t.answers = s.answers) : votedOk t = votedOk s := by
  simp only [votedOk, mkList, h1, h2, h3, h4, List.all_cons, List.all_nil, firstBad_congr hv hs]
/-- How a vector may go up: what is kept is what was. -/
structure Up (s : State) (v : List Draw) : Prop where
  len : v.length = s.vector.length
  kept : ∀ k, k < s.vector.length → 0 ≤ cmp (s.vector.getD k ⟨0, 0⟩) (v.getD k ⟨0, 0⟩) → v.getD k ⟨0, 0⟩ = s.vector.getD k ⟨0, 0⟩
  own : v.getD s.self.toNat ⟨0, 0⟩ = s.vector.getD s.self.toNat ⟨0, 0⟩
theorem voted_filter {s : State} {v : List Draw} (hu : Up s v) {l : List Mark} (h : firstBad s (-1) l = none) {s' : State} (h1 : s'.vector = v) (h2 : s'.self = s.self) : firstBad s' (-1) (l.filter (fun x => lives v x.node x.draw)) = none := by
  rw [firstBad_none] at h ⊢
  refine ⟨fun m hm => ?_, List.Pairwise.filter _ h.2⟩
  rw [List.mem_filter] at hm
  obtain ⟨q1, q2, q3, q4⟩ := h.1 m hm.1
  rw [h1, h2, hu.len]
  refine ⟨q1, q2, q3, ?_⟩
  rw [← q4]
  refine hu.kept _ (by omega) ?_
  have := hm.2
  unfold lives at this
  rw [← q4] at this
  exact of_decide_eq_true this
theorem isNone_filter {α : Type} (p q : α → Bool) (l : List α) (h : (l.find? p).isNone = true) : ((l.filter q).find? p).isNone = true := by
  rw [Option.isNone_iff_eq_none, List.find?_eq_none] at h ⊢
  intro x hx
  exact h x (List.mem_filter.1 hx).1
theorem isEmpty_filter {α : Type} (q : α → Bool) (l : List α) (h : l.isEmpty = true) : (l.filter q).isEmpty = true := by
  rw [List.isEmpty_iff] at h ⊢
  rw [h]; rfl
theorem stateErr_iff (c : Cfg) (s : State) : stateErr c s = 0 ↔ cfgOk c ∧ headOff c s = false ∧ logOk c s.log s.commit = true ∧ votedOk s = true ∧ bodyOk c s = true := by
  unfold stateErr
  by_cases hc : cfgOk c
  · rw [if_pos hc]
    unfold stateOk
    cases headOff c s <;> cases logOk c s.log s.commit <;> cases votedOk s <;> cases bodyOk c s <;> simp <;> exact hc
  · rw [if_neg hc]
    simp [hc]
theorem struck_ok {c : Cfg} {s : State} {v : List Draw} (h : stateErr c s = 0) (hu : Up s v) : stateErr c (struck s v) = 0 := by
  rw [stateErr_iff] at h ⊢
  obtain ⟨hc, hh, hl, hv, hb⟩ := h
  refine ⟨hc, ?_, hl, ?_, ?_⟩
  · unfold headOff at hh ⊢
    simp only [struck, hu.len]
    exact hh
  · simp only [votedOk, mkList, List.all_cons, List.all_nil, Bool.and_true, Bool.and_eq_true, Option.isNone_iff_eq_none] at hv ⊢
    obtain ⟨q1, q2, q3, q4⟩ := hv
    simp only [struck]
    refine ⟨?_, ?_, ?_, ?_⟩
    · have := voted_filter hu q1 (s' := struck s v) rfl rfl
      rw [List.filter_map] at this
      exact this
    · exact voted_filter hu q2 (s' := struck s v) rfl rfl
    · have := voted_filter hu q3 (s' := struck s v) rfl rfl
      rw [List.filter_map] at this
      exact this
    · have := voted_filter hu q4 (s' := struck s v) rfl rfl
      rw [List.filter_map] at this
      exact this
  · unfold bodyOk at hb ⊢
    show (if s.status = 1 then normalOk c (struck s v) else if s.status = 2 then changingOk c (struck s v) else if s.status = 3 then recoverOk c (struck s v) else false) = true
    by_cases s1 : s.status = 1
    · rw [if_pos s1] at hb ⊢
      unfold normalOk at hb ⊢
      have hl2 : leads c (struck s v) = leads c s := rfl
      rw [hl2]
      simp only [struck, Bool.and_eq_true] at hb ⊢
      obtain ⟨⟨⟨⟨h1, h2⟩, h3⟩, h4⟩, h5⟩ := hb
      refine ⟨⟨⟨⟨h1, isEmpty_filter _ _ h2⟩, isEmpty_filter _ _ h3⟩, isEmpty_filter _ _ h4⟩, ?_⟩
      cases hl3 : leads c s
      · rw [hl3] at h5
        simp only [Bool.false_eq_true, if_false] at h5 ⊢
        exact isEmpty_filter _ _ h5
      · rw [hl3] at h5
        simp only [if_true, Bool.and_eq_true] at h5 ⊢
        exact ⟨isNone_filter _ _ _ h5.1, h5.2⟩
    · rw [if_neg s1] at hb ⊢
      by_cases s2 : s.status = 2
      · rw [if_pos s2] at hb ⊢
        unfold changingOk at hb ⊢
        have hl2 : leads c (struck s v) = leads c s := rfl
        have hl3 : badBal c (struck s v) = badBal c s := rfl
        rw [hl2, hl3]
        simp only [struck, Bool.and_eq_true, Bool.not_eq_true', Bool.or_eq_false_iff, Bool.not_eq_false', Bool.or_eq_true] at hb ⊢
        obtain ⟨⟨⟨⟨⟨h1, h2⟩, h3⟩, h4⟩, h5⟩, h6⟩ := hb
        refine ⟨⟨⟨⟨⟨h1, isEmpty_filter _ _ h2⟩, isEmpty_filter _ _ h3⟩, ?_⟩, ?_⟩, isNone_filter _ _ _ h6⟩
        · have := List.length_filter_le (keepBallot v) s.ballots
          have h4' := of_decide_eq_false h4
          exact decide_eq_false (by omega)
        · exact h5.imp id (isEmpty_filter _ _)
      · rw [if_neg s2] at hb ⊢
        by_cases s3 : s.status = 3
        · rw [if_pos s3] at hb ⊢
          have hg : selfDraw (struck s v) = selfDraw s := hu.own
          unfold recoverOk at hb ⊢
          rw [hg]
          unfold recHead at hb ⊢
          simp only [struck, Bool.and_eq_true, Bool.not_eq_true', Bool.or_eq_false_iff, Bool.not_eq_false'] at hb ⊢
          obtain ⟨⟨⟨⟨⟨⟨⟨⟨⟨h1, h2⟩, h3⟩, h4⟩, h5⟩, h6⟩, h7⟩, h8⟩, h9⟩, h10⟩ := hb
          exact ⟨⟨⟨⟨⟨⟨⟨⟨⟨h1, h2⟩, h3⟩, h4⟩, h5⟩, isEmpty_filter _ _ h6⟩, isEmpty_filter _ _ h7⟩, isEmpty_filter _ _ h8⟩, h9⟩, isNone_filter _ _ _ h10⟩
        · rw [if_neg s3] at hb
          cases hb
theorem mxv_get {a b : List Draw} (h : b.length = a.length) {k : Nat} (hk : k < a.length) : (mxv a b).getD k ⟨0, 0⟩ = mxd (a.getD k ⟨0, 0⟩) (b.getD k ⟨0, 0⟩) := by
  have h1 : k < b.length := by omega
  have h2 : k < (List.zipWith mxd a b).length := by simp; omega
  simp only [mxv, List.getD, List.getElem?_eq_getElem hk, List.getElem?_eq_getElem h1, List.getElem?_eq_getElem h2, Option.getD_some, List.getElem_zipWith]
theorem up_mxv {c : Cfg} {s : State} {m : Msg} (hs : 0 ≤ s.self ∧ s.self < s.vector.length) (hl : m.vector.length = s.vector.length) (ha : aheadB s m = false) : Up s (mxv s.vector m.vector) := by
  refine ⟨by simp [mxv, hl], fun k hk h => ?_, ?_⟩
  · rw [mxv_get hl hk] at h ⊢
    unfold mxd at h ⊢
    split
    · rename_i hc; rw [if_pos hc] at h; omega
    · rfl
  · rw [mxv_get hl (by omega)]
    unfold mxd
    rw [if_neg]
    unfold aheadB at ha
    have := of_decide_eq_false ha
    rw [cmp_neg (s.vector.getD s.self.toNat ⟨0, 0⟩)] at this
    omega
/-- What Admit answers of a state and a message that may be. -/
theorem admS_cases {c : Cfg} {s : State} {m : Msg} (h : stateErr c s = 0) (hm : msgErr c m = 0) :
    (admS c s m = s ∧ (between m.kind = false ∧ admB c s m = true ∨ between m.kind = true ∧ (m.node = s.self ∧ admB c s m = false ∨ m.node ≠ s.self ∧ (c.unguarded = true ∧ admB c s m = true ∨ c.unguarded = false ∧ (overB s m = true ∨ aheadB s m = true) ∧ admB c s m = false)))) ∨
    (admS c s m = struck s (mxv s.vector m.vector) ∧ admB c s m = true ∧ between m.kind = true ∧ m.node ≠ s.self ∧ c.unguarded = false ∧ overB s m = false ∧ aheadB s m = false) := by
  have he : admErr c s m = 0 := by unfold admErr; rw [if_neg (by simp [h]), hm]
  unfold admS admB
  simp only [ne_eq, he, not_true_eq_false, if_false]
  cases hb : between m.kind
  · left; simp
  · by_cases q1 : m.node = s.self
    · left; simp [q1]
    · cases q2 : c.unguarded
      · cases q3 : overB s m
        · cases q4 : aheadB s m
          · right; simp [q1]
          · left; simp [q1]
        · left; simp [q1]
      · left; simp [q1]
theorem admS_ok {c : Cfg} {s : State} {m : Msg} (h : stateErr c s = 0) (hm : msgErr c m = 0) : stateErr c (admS c s m) = 0 := by
  rcases admS_cases h hm with ⟨e, _⟩ | ⟨e, _, hb, _, _, _, ha⟩
  · rw [e]; exact h
  · rw [e]
    obtain ⟨_, h1, h2, h3, _⟩ := nodes_ok h
    obtain ⟨h4, _⟩ := msg_ok hm hb
    exact struck_ok h (up_mxv (c := c) ⟨h2, by omega⟩ (by omega) ha)
end Go.Ax
