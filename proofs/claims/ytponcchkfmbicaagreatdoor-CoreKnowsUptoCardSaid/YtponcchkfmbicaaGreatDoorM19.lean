/-
  CoreVoices, evaluated.
-/
import Derived.Test.YtponcchkfmbicaaGreatDoorM18
import Derived.Test.YtponcchkfmbicaaGreatDoorM17
import Derived.Test.YtponcchkfmbicaaGreatDoorMF
namespace Go.Ax
set_option linter.all false
variable {n d : Nat}
set_option maxRecDepth 10000
set_option linter.unusedSimpArgs false
set_option maxHeartbeats 4000000

structure Votes (X : State) : Prop where
  acks : ∀ x ∈ X.acks, 0 ≤ x.node ∧ x.node < X.vector.length ∧ X.vector.getD x.node.toNat ⟨0, 0⟩ = x.draw
  marks : ∀ x ∈ X.marks, 0 ≤ x.node ∧ x.node < X.vector.length ∧ X.vector.getD x.node.toNat ⟨0, 0⟩ = x.draw
  ballots : ∀ x ∈ X.ballots, 0 ≤ x.node ∧ x.node < X.vector.length ∧ X.vector.getD x.node.toNat ⟨0, 0⟩ = x.draw
  answers : ∀ x ∈ X.answers, 0 ≤ x.node ∧ x.node < X.vector.length ∧ X.vector.getD x.node.toNat ⟨0, 0⟩ = x.draw
theorem votes_of {c : Cfg} {X : State} (h : stateErr c X = 0) : Votes X := by
  obtain ⟨_, _, _, hv, _⟩ := (stateErr_iff c X).1 h
  simp only [votedOk, mkList, List.all_cons, List.all_nil, Bool.and_true, Bool.and_eq_true, Option.isNone_iff_eq_none, firstBad_none] at hv
  obtain ⟨⟨q1, _⟩, ⟨q2, _⟩, ⟨q3, _⟩, q4, _⟩ := hv
  refine ⟨fun x hx => ?_, fun x hx => ?_, fun x hx => ?_, fun x hx => ?_⟩
  · obtain ⟨a, b, _, e⟩ := q1 (ackM x) (List.mem_map.2 ⟨x, hx, rfl⟩); exact ⟨by simp only [ackM] at a; omega, b, e⟩
  · obtain ⟨a, b, _, e⟩ := q2 x hx; exact ⟨by omega, b, e⟩
  · obtain ⟨a, b, _, e⟩ := q3 (balM x) (List.mem_map.2 ⟨x, hx, rfl⟩); exact ⟨by simp only [balM] at a; omega, b, e⟩
  · obtain ⟨a, b, _, e⟩ := q4 (ansM x) (List.mem_map.2 ⟨x, hx, rfl⟩); exact ⟨by simp only [ansM] at a; omega, b, e⟩
def S_vo_0 (X : State) (i : Nat) : St := ⟨[(10, .ptr 0 0), (13, .dat (di X.vector.length)), (14, .dat (di i))], [boxS X]⟩
theorem l_voices0 (cf : CallF) (X : State) (hs : Small X) (hv : Votes X) (hn : 1048577 < n) : loopAt (XCode.run cf n 0 xf_law09_CoreVoices_b0) (headOf 0 xf_law09_CoreVoices_k0) n (S_vo_0 X 0) = some (.exit 0, ⟨[(10, .ptr 0 0), (13, .dat (di X.vector.length))], [boxS X]⟩) := by
  have hl := hs.acks
  refine loop_for (S_vo_0 X) X.acks.length _ (fun i hi => nextK_some ?_) ?_ (fun s h => by simp at h) n (by omega)
  · have hi' : (i : Int) < X.acks.length := by omega
    have hw := wrap_i i (by omega)
    obtain ⟨v1, v2, v3⟩ := hv.acks _ (List.getElem_mem hi)
    have v4 : X.acks[i].node.toNat < X.vector.length := by omega
    have v5 : X.vector[X.acks[i].node.toNat] = X.acks[i].draw := by simpa [List.getD, v4] using v3
    have v6 : ¬ X.acks[i].node < 0 := by omega
    have v7 : ¬ (X.vector.length : Int) ≤ X.acks[i].node := by omega
    simp [xf_law09_CoreVoices_b0, xf_law09_CoreVoices_k0, S_vo_0, hi, hi', hw, v1, v2, v4, v5, v6, v7]
  · simp [xf_law09_CoreVoices_b0, S_vo_0]
def S_vo_1 (X : State) (i : Nat) : St := ⟨[(10, .ptr 0 0), (13, .dat (di X.vector.length)), (15, .dat (di i))], [boxS X]⟩
theorem l_voices1 (cf : CallF) (X : State) (hs : Small X) (hv : Votes X) (hn : 1048577 < n) : loopAt (XCode.run cf n 0 xf_law09_CoreVoices_b1) (headOf 0 xf_law09_CoreVoices_k1) n (S_vo_1 X 0) = some (.exit 2, ⟨[(10, .ptr 0 0), (13, .dat (di X.vector.length))], [boxS X]⟩) := by
  have hl := hs.marks
  refine loop_for (S_vo_1 X) X.marks.length _ (fun i hi => nextK_some ?_) ?_ (fun s h => by simp at h) n (by omega)
  · have hi' : (i : Int) < X.marks.length := by omega
    have hw := wrap_i i (by omega)
    obtain ⟨v1, v2, v3⟩ := hv.marks _ (List.getElem_mem hi)
    have v4 : X.marks[i].node.toNat < X.vector.length := by omega
    have v5 : X.vector[X.marks[i].node.toNat] = X.marks[i].draw := by simpa [List.getD, v4] using v3
    have v6 : ¬ X.marks[i].node < 0 := by omega
    have v7 : ¬ (X.vector.length : Int) ≤ X.marks[i].node := by omega
    simp [xf_law09_CoreVoices_b1, xf_law09_CoreVoices_k1, S_vo_1, hi, hi', hw, v1, v2, v4, v5, v6, v7]
  · simp [xf_law09_CoreVoices_b1, S_vo_1]
def S_vo_2 (X : State) (i : Nat) : St := ⟨[(10, .ptr 0 0), (13, .dat (di X.vector.length)), (16, .dat (di i))], [boxS X]⟩
theorem l_voices2 (cf : CallF) (X : State) (hs : Small X) (hv : Votes X) (hn : 1048577 < n) : loopAt (XCode.run cf n 0 xf_law09_CoreVoices_b2) (headOf 0 xf_law09_CoreVoices_k2) n (S_vo_2 X 0) = some (.exit 4, ⟨[(10, .ptr 0 0), (13, .dat (di X.vector.length))], [boxS X]⟩) := by
  have hl := hs.ballots
  refine loop_for (S_vo_2 X) X.ballots.length _ (fun i hi => nextK_some ?_) ?_ (fun s h => by simp at h) n (by omega)
  · have hi' : (i : Int) < X.ballots.length := by omega
    have hw := wrap_i i (by omega)
    obtain ⟨v1, v2, v3⟩ := hv.ballots _ (List.getElem_mem hi)
    have v4 : X.ballots[i].node.toNat < X.vector.length := by omega
    have v5 : X.vector[X.ballots[i].node.toNat] = X.ballots[i].draw := by simpa [List.getD, v4] using v3
    have v6 : ¬ X.ballots[i].node < 0 := by omega
    have v7 : ¬ (X.vector.length : Int) ≤ X.ballots[i].node := by omega
    simp [xf_law09_CoreVoices_b2, xf_law09_CoreVoices_k2, S_vo_2, hi, hi', hw, v1, v2, v4, v5, v6, v7]
  · simp [xf_law09_CoreVoices_b2, S_vo_2]
def S_vo_3 (X : State) (i : Nat) : St := ⟨[(10, .ptr 0 0), (13, .dat (di X.vector.length)), (17, .dat (di i))], [boxS X]⟩
theorem l_voices3 (cf : CallF) (X : State) (hs : Small X) (hv : Votes X) (hn : 1048577 < n) : loopAt (XCode.run cf n 0 xf_law09_CoreVoices_b3) (headOf 0 xf_law09_CoreVoices_k3) n (S_vo_3 X 0) = some (.exit 6, ⟨[], [boxS X]⟩) := by
  have hl := hs.answers
  refine loop_for (S_vo_3 X) X.answers.length _ (fun i hi => nextK_some ?_) ?_ (fun s h => by simp at h) n (by omega)
  · have hi' : (i : Int) < X.answers.length := by omega
    have hw := wrap_i i (by omega)
    obtain ⟨v1, v2, v3⟩ := hv.answers _ (List.getElem_mem hi)
    have v4 : X.answers[i].node.toNat < X.vector.length := by omega
    have v5 : X.vector[X.answers[i].node.toNat] = X.answers[i].draw := by simpa [List.getD, v4] using v3
    have v6 : ¬ X.answers[i].node < 0 := by omega
    have v7 : ¬ (X.vector.length : Int) ≤ X.answers[i].node := by omega
    simp [xf_law09_CoreVoices_b3, xf_law09_CoreVoices_k3, S_vo_3, hi, hi', hw, v1, v2, v4, v5, v6, v7]
  · simp [xf_law09_CoreVoices_b3, S_vo_3]
theorem adm_short {c : Cfg} {s : State} {m : Msg} (h : stateErr c s = 0) (hm : msgErr c m = 0) : (admS c s m).vector.length = s.vector.length ∧ (admS c s m).acks.length ≤ s.acks.length ∧ (admS c s m).marks.length ≤ s.marks.length ∧ (admS c s m).ballots.length ≤ s.ballots.length ∧ (admS c s m).answers.length ≤ s.answers.length := by
  rcases admS_cases h hm with ⟨e, _⟩ | ⟨e, _, hb, _, _, _, ha⟩
  · rw [e]; exact ⟨rfl, Nat.le_refl _, Nat.le_refl _, Nat.le_refl _, Nat.le_refl _⟩
  · obtain ⟨_, h1, _⟩ := nodes_ok h
    obtain ⟨h4, _⟩ := msg_ok hm hb
    rw [e]
    exact ⟨by simp [struck, mxv]; omega, List.length_filter_le _ _, List.length_filter_le _ _, List.length_filter_le _ _, List.length_filter_le _ _⟩
theorem Small2.adm {s : State} (hs : Small2 s) {c : Cfg} {m : Msg} (h : stateErr c s = 0) (hm : msgErr c m = 0) : Small2 (admS c s m) := by
  obtain ⟨h1, h2, h3, h4, h5⟩ := adm_short h hm
  have k := hs.toSmall
  have hb : ∀ b ∈ (admS c s m).ballots, b ∈ s.ballots := by
    rcases admS_cases h hm with ⟨e, _⟩ | ⟨e, _⟩ <;> rw [e] <;> intro b hb
    · exact hb
    · exact (List.mem_filter.1 hb).1
  have ha : ∀ b ∈ (admS c s m).answers, b ∈ s.answers := by
    rcases admS_cases h hm with ⟨e, _⟩ | ⟨e, _⟩ <;> rw [e] <;> intro b hb
    · exact hb
    · exact (List.mem_filter.1 hb).1
  have hl : (admS c s m).log = s.log := by
    rcases admS_cases h hm with ⟨e, _⟩ | ⟨e, _⟩ <;> rw [e] <;> rfl
  exact ⟨⟨by rw [hl]; exact k.log, by have := k.vector; omega, by have := k.acks; omega, by have := k.marks; omega, by have := k.ballots; omega, by have := k.answers; omega, fun b q => k.blogs b (hb b q), fun b q => k.alogs b (ha b q)⟩,
    by rw [hl]; exact hs.log2, by have := hs.vector2; omega, fun b q => hs.blogs2 b (hb b q), fun b q => hs.alogs2 b (ha b q)⟩
theorem law_CoreVoices (c : Cfg) (s : State) (m : Msg) (hs : Small2 s) (hm : SmallM m) (hN : ∀ x ∈ s.vector, Nn x) (hn : 2097157 < n) : ∃ H, runFn T n (d + 10) 4 [.dat (encCfg c), .dat (encS s), .dat (encM m)] [] = some (.dat (.bool true), H) := by
  have al := e_alive (n := n) (d := d + 1) (by omega)
  have o1 := e_core_Admit (n := n) (d := d + 3) c s m hs.toSmall (by have := hm.log; omega) hN (by omega)
  have o2 := e_ref09_Check (n := n) (d := d + 2) c s hs.toSmall (by omega)
  have n1 := e_num (n := n) (d := d + 8) (admErr c s m)
  rw [runFn_succ]
  by_cases he : stateErr c s = 0
  · rw [he] at o2
    have hE : admErr c s m = msgErr c m := by unfold admErr; rw [if_neg (by simp [he])]
    rw [hE] at o1 n1
    by_cases hme : msgErr c m = 0
    · have hok := admS_ok he hme
      obtain ⟨q1, q2, q3, q4, q5⟩ := adm_short he hme
      have hX := (hs.adm he hme).toSmall
      have hv := votes_of hok
      generalize admS c s m = X at *
      rw [hme] at o1 n1
      have l0 := l_voices0 (n := n) (runFn T n (d + 9)) X hX hv (by omega)
      have l1 := l_voices1 (n := n) (runFn T n (d + 9)) X hX hv (by omega)
      have l2 := l_voices2 (n := n) (runFn T n (d + 9)) X hX hv (by omega)
      have l3 := l_voices3 (n := n) (runFn T n (d + 9)) X hX hv (by omega)
      simp [S_vo_0, xf_law09_CoreVoices_k0] at l0
      simp [S_vo_1, xf_law09_CoreVoices_k1] at l1
      simp [S_vo_2, xf_law09_CoreVoices_k2] at l2
      simp [S_vo_3, xf_law09_CoreVoices_k3] at l3
      have q1' : X.vector.length = s.vector.length := q1
      have r2 : ¬ s.acks.length < X.acks.length := by omega
      have r3 : ¬ s.marks.length < X.marks.length := by omega
      have r4 : ¬ s.ballots.length < X.ballots.length := by omega
      have r5 : ¬ s.answers.length < X.answers.length := by omega
      have r1 := eq_true q1
      simp [T, xf_law09_CoreVoices, xf_law09_CoreVoices_k0, xf_law09_CoreVoices_k1, xf_law09_CoreVoices_k2, xf_law09_CoreVoices_k3, al, o1, o2, n1, l0, l1, l2, l3, r1, r2, r3, r4, r5]
      omega
    · have o3 := e_ref07_Check (n := n) (d := d + 4) c m (by have := hm.log; omega) (by omega)
      simp [T, xf_law09_CoreVoices, al, o1, o2, o3, n1, hme]
  · have hE : admErr c s m = stateErr c s := by unfold admErr; rw [if_pos he]
    have hB : admB c s m = false := by unfold admB; rw [if_pos (by rw [hE]; exact he)]
    rw [hE, hB] at o1
    rw [hE] at n1
    simp [T, xf_law09_CoreVoices, al, o1, o2, n1, he]
end Go.Ax
