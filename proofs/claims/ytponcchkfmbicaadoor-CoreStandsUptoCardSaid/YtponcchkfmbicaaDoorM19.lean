/-
  CoreVoices, evaluated.
-/
import Derived.Test.YtponcchkfmbicaaDoorM18
import Derived.Test.YtponcchkfmbicaaDoorM17
import Derived.Test.YtponcchkfmbicaaDoorMF
namespace Go.Ax
set_option linter.all false
variable {n d : Nat}
set_option maxRecDepth 10000
set_option linter.unusedSimpArgs false
set_option maxHeartbeats 4000000

structure Votes (X : State) : Prop where
  acks : ∀ x ∈ X.acks, 0 ≤ x.node ∧ x.node < X.vector.length ∧ X.vector.getD x.node.toNat ⟨0, 0⟩ = x.draw
  marks : ∀ x ∈ X.marks, 0 ≤ x.node ∧ x.node < X.vector.length ∧ X.vector.getD x.node.toNat ⟨0, 0⟩ = x.draw
  ballots : ∀ x ∈ X.ballots, 0 ≤ x.node ∧ x.node < X.vector.length ∧ X.vector.getD x.node.toNat ⟨0, 0⟩ = x.draw
  answers : ∀ x ∈ X.answers, 0 ≤ x.node ∧ x.node < X.vector.length ∧ X.vector.getD x.node.toNat ⟨0, 0⟩ = x.draw
theorem votes_of {c : Cfg} {X : State} (h : stateErr c X = 0) : Votes X := by
  obtain ⟨_, _, _, hv, _⟩ := (stateErr_iff c X).1 h
  simp only [votedOk, mkList, List.all_cons, List.all_nil, Bool.and_true, Bool.and_eq_true, Option.isNone_iff_eq_none, firstBad_none] at hv
  obtain ⟨⟨q1, _⟩, ⟨q2, _⟩, ⟨q3, _⟩, q4, _⟩ := hv
  refine ⟨fun x hx => ?_, fun x hx => ?_, fun x hx => ?_, fun x hx => ?_⟩
  · obtain ⟨a, b, _, e⟩ := q1 (ackM x) (List.mem_map.2 ⟨x, hx, rfl⟩); exact ⟨by simp only [ackM] at a; omega, b, e⟩
  · obtain ⟨a, b, _, e⟩ := q2 x hx; exact ⟨by omega, b, e⟩
  · obtain ⟨a, b, _, e⟩ := q3 (balM x) (List.mem_map.2 ⟨x, hx, rfl⟩); exact ⟨by simp only [balM] at a; omega, b, e⟩
  · obtain ⟨a, b, _, e⟩ := q4 (ansM x) (List.mem_map.2 ⟨x, hx, rfl⟩); exact ⟨by simp only [ansM] at a; omega, b, e⟩
def S_vo_0 (X : State) (i : Nat) : St := ⟨[(10, .ptr 0 0), (13, .dat (di X.vector.length)), (14, .dat (di i))], [boxS X]⟩
def S_vo_1 (X : State) (i : Nat) : St := ⟨[(10, .ptr 0 0), (13, .dat (di X.vector.length)), (15, .dat (di i))], [boxS X]⟩
def S_vo_2 (X : State) (i : Nat) : St := ⟨[(10, .ptr 0 0), (13, .dat (di X.vector.length)), (16, .dat (di i))], [boxS X]⟩
def S_vo_3 (X : State) (i : Nat) : St := ⟨[(10, .ptr 0 0), (13, .dat (di X.vector.length)), (17, .dat (di i))], [boxS X]⟩
theorem adm_short {c : Cfg} {s : State} {m : Msg} (h : stateErr c s = 0) (hm : msgErr c m = 0) : (admS c s m).vector.length = s.vector.length ∧ (admS c s m).acks.length ≤ s.acks.length ∧ (admS c s m).marks.length ≤ s.marks.length ∧ (admS c s m).ballots.length ≤ s.ballots.length ∧ (admS c s m).answers.length ≤ s.answers.length := by
  rcases admS_cases h hm with ⟨e, _⟩ | ⟨e, _, hb, _, _, _, ha⟩
  · rw [e]; exact ⟨rfl, Nat.le_refl _, Nat.le_refl _, Nat.le_refl _, Nat.le_refl _⟩
  · obtain ⟨_, h1, _⟩ := nodes_ok h
    obtain ⟨h4, _⟩ := msg_ok hm hb
    rw [e]
    exact ⟨by simp [struck, mxv]; omega, List.length_filter_le _ _, List.length_filter_le _ _, List.length_filter_le _ _, List.length_filter_le _ _⟩
theorem Small2.adm {s : State} (hs : Small2 s) {c : Cfg} {m : Msg} (h : stateErr c s = 0) (hm : msgErr c m = 0) : Small2 (admS c s m) := by
  obtain ⟨h1, h2, h3, h4, h5⟩ := adm_short h hm
  have k := hs.toSmall
  have hb : ∀ b ∈ (admS c s m).ballots, b ∈ s.ballots := by
    rcases admS_cases h hm with ⟨e, _⟩ | ⟨e, _⟩ <;> rw [e] <;> intro b hb
    · exact hb
    · exact (List.mem_filter.1 hb).1
  have ha : ∀ b ∈ (admS c s m).answers, b ∈ s.answers := by
    rcases admS_cases h hm with ⟨e, _⟩ | ⟨e, _⟩ <;> rw [e] <;> intro b hb
    · exact hb
    · exact (List.mem_filter.1 hb).1
  have hl : (admS c s m).log = s.log := by
    rcases admS_cases h hm with ⟨e, _⟩ | ⟨e, _⟩ <;> rw [e] <;> rfl
  exact ⟨⟨by rw [hl]; exact k.log, by have := k.vector; omega, by have := k.acks; omega, by have := k.marks; omega, by have := k.ballots; omega, by have := k.answers; omega, fun b q => k.blogs b (hb b q), fun b q => k.alogs b (ha b q)⟩,
    by rw [hl]; exact hs.log2, by have := hs.vector2; omega, fun b q => hs.blogs2 b (hb b q), fun b q => hs.alogs2 b (ha b q)⟩
end Go.Ax
