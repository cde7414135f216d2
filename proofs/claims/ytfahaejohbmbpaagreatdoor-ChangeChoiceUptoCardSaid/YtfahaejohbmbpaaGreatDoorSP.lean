/-
  What a step of the view change answers is a state that may be: plain.
-/
import Derived.Test.YtfahaejohbmbpaaGreatDoorVL
namespace Go.Ax
set_option linter.all false
set_option maxRecDepth 10000
set_option linter.unusedSimpArgs false
set_option maxHeartbeats 4000000
def VL (u : State) (l : List Mark) : Prop := (∀ m ∈ l, -1 < m.node ∧ m.node < u.vector.length ∧ m.node ≠ u.self ∧ u.vector.getD m.node.toNat ⟨0, 0⟩ = m.draw) ∧ l.Pairwise (fun x y => x.node < y.node)
theorem votedVL (u : State) : votedOk u = true ↔ VL u (u.acks.map ackM) ∧ VL u u.marks ∧ VL u (u.ballots.map balM) ∧ VL u (u.answers.map ansM) := by
 simp only [votedOk, mkList, List.all_cons, List.all_nil, Bool.and_true, Bool.and_eq_true, Option.isNone_iff_eq_none, firstBad_none]
 exact Iff.rfl
theorem VL.nil {u : State} : VL u [] := by unfold VL; simp
theorem msg_rest {c : Cfg} {m : Msg} (h : msgErr c m = 0) : restOk c m = true := by
 unfold msgErr at h
 by_cases hc : cfgOk c
 ·rw [if_pos hc] at h
  by_cases hk : 1 ≤ m.kind ∧ m.kind ≤ 14
  ·rw [if_pos hk] at h
   cases hm : msgOk c m
   ·rw [hm] at h; simp at h
   ·unfold msgOk at hm
    simp only [Bool.and_eq_true] at hm
    exact hm.2.2
  ·rw [if_neg hk] at h; simp at h
 ·rw [if_neg hc] at h; simp at h
theorem msg_log {c : Cfg} {m : Msg} (h : msgErr c m = 0) (hk : m.kind = 7 ∨ m.kind = 8) : logErr m.log c.room = 0 ∧ 0 ≤ m.commit ∧ m.commit ≤ m.log.length ∧ 1 ≤ m.view := by
 obtain ⟨_, _, _, _, _, g1, _, gt⟩ := msg_nums h
 have hu : ub m.kind 8 = true := by rcases hk with e | e <;> rw [e] <;> decide
 have hr := msg_rest h
 unfold restOk at hr
 simp only [hu, Bool.and_eq_true, Bool.not_true, Bool.false_or, decide_eq_true_eq] at hr
 have he : numsEnd m = true ∧ 1 ≤ m.view := by
  unfold numsTail at gt
  rcases hk with e | e
  ·rw [if_neg (by omega), if_neg (by omega), if_neg (by omega), if_neg (by omega), if_pos (by omega)] at gt
   simp only [Bool.and_eq_true, Bool.not_eq_true', decide_eq_false_iff_not] at gt
   exact ⟨gt.2, by omega⟩
  ·rw [if_neg (by omega), if_neg (by omega), if_neg (by omega), if_pos e] at gt
   simp only [Bool.and_eq_true, Bool.not_eq_true', decide_eq_false_iff_not] at gt
   exact ⟨gt.2.2, by omega⟩
 have h2 := he.1
 unfold numsEnd at h2
 simp only [hu, Bool.and_eq_true, Bool.not_true, Bool.false_or, decide_eq_true_eq] at h2
 exact ⟨hr.2.2.2.2.1, g1, h2.2, he.2⟩
theorem msg_last {c : Cfg} {m : Msg} (h : msgErr c m = 0) (hk : m.kind = 7) : 0 ≤ m.last ∧ m.last < m.view := by
 obtain ⟨_, _, _, _, _, _, g1, gt⟩ := msg_nums h
 unfold numsTail at gt
 rw [if_neg (by omega), if_neg (by omega), if_neg (by omega), if_neg (by omega), if_pos (by omega)] at gt
 simp only [Bool.and_eq_true, Bool.not_eq_true', decide_eq_false_iff_not] at gt
 have h2 := gt.2
 have hu : ub m.kind 2 = true := by rw [hk]; decide
 unfold numsEnd at h2
 simp only [hu, Bool.and_eq_true, Bool.not_true, Bool.false_or, decide_eq_true_eq] at h2
 exact ⟨g1, h2.1⟩
theorem status_of {c : Cfg} {s : State} (h : stateErr c s = 0) : s.status = 1 ∨ s.status = 2 ∨ s.status = 3 := by
 rw [stateErr_iff] at h
 obtain ⟨_, _, _, _, hb⟩ := h
 unfold bodyOk at hb
 split at hb
 ·exact .inl (by assumption)
 ·split at hb
  ·exact .inr (.inl (by assumption))
  ·split at hb
   ·exact .inr (.inr (by assumption))
   ·cases hb
structure Goes (c : Cfg) (t : State) (m : Msg) : Prop where
 ok : stateErr c t = 0
 me : msgErr c m = 0
 st : t.status ≠ 3
 ns : ¬ stale t m
theorem Goes.view {c : Cfg} {t : State} {m : Msg} (g : Goes c t m) : (firstS2 c t m).view = m.view := by
 have h := g.ns
 unfold stale at h
 unfold firstS2
 split
 ·rfl
 ·omega
theorem Goes.first {c : Cfg} {t : State} {m : Msg} (g : Goes c t m) : stateErr c (firstS2 c t m) = 0 := by
 obtain ⟨_, _, _, _, gv, _⟩ := msg_nums g.me
 unfold firstS2
 split
 ·exact go_ok g.ok ⟨by assumption, gv⟩
 ·exact g.ok
theorem Goes.status {c : Cfg} {t : State} {m : Msg} (g : Goes c t m) : (firstS2 c t m).status = 2 := by
 have h := g.ns
 have h3 := g.st
 have hs := status_of g.ok
 unfold stale at h
 unfold firstS2
 split
 ·rfl
 ·omega
theorem first_same {c : Cfg} {t : State} {m : Msg} : (firstS2 c t m).self = t.self ∧ (firstS2 c t m).last = t.last ∧ (firstS2 c t m).log = t.log ∧ (firstS2 c t m).commit = t.commit ∧ (firstS2 c t m).vector = t.vector := by
 unfold firstS2; split <;> exact ⟨rfl, rfl, rfl, rfl, rfl⟩
theorem drawAt_first {c : Cfg} {t : State} {m : Msg} (k : Int) : drawAt (firstS2 c t m) k = drawAt t k := by
 unfold drawAt; rw [first_same.2.2.2.2]
theorem VL.put_mark {u : State} {l : List Mark} (h : VL u l) (up : Mark → Bool) (v : Mark) (hv : -1 < v.node ∧ v.node < u.vector.length ∧ v.node ≠ u.self ∧ u.vector.getD v.node.toNat ⟨0, 0⟩ = v.draw) : VL u (putL (·.node) up v l) := by
 refine ⟨fun x hx => ?_, putL_sorted _ _ _ _ h.2⟩
 rcases putL_mem _ _ _ _ _ hx with rfl | hx
 ·exact hv
 ·exact h.1 x hx
theorem VL.put_bal {u : State} {l : List Ballot} (h : VL u (l.map balM)) (up : Ballot → Bool) (v : Ballot) (hv : -1 < v.node ∧ v.node < u.vector.length ∧ v.node ≠ u.self ∧ u.vector.getD v.node.toNat ⟨0, 0⟩ = v.draw) : VL u ((putL (·.node) up v l).map balM) := by
 obtain ⟨h1, h2⟩ := h
 rw [List.pairwise_map] at h2
 refine ⟨fun x hx => ?_, ?_⟩
 ·obtain ⟨y, hy, rfl⟩ := List.mem_map.1 hx
  rcases putL_mem _ _ _ _ _ hy with rfl | hy
  ·exact hv
  ·exact h1 _ (List.mem_map.2 ⟨y, hy, rfl⟩)
 ·rw [List.pairwise_map]
  exact putL_sorted _ _ _ _ h2
theorem node_vote {c : Cfg} {t : State} {m : Msg} (g : Goes c t m) (hne : m.node ≠ t.self) : -1 < m.node ∧ m.node < (firstS2 c t m).vector.length ∧ m.node ≠ (firstS2 c t m).self ∧ (firstS2 c t m).vector.getD m.node.toNat ⟨0, 0⟩ = drawAt t m.node := by
 obtain ⟨_, g1, g2, _⟩ := msg_nums g.me
 obtain ⟨_, h1, _⟩ := nodes_ok g.ok
 rw [first_same.2.2.2.2, first_same.1]
 exact ⟨by omega, by omega, hne, rfl⟩
theorem start_ok {c : Cfg} {t : State} {m : Msg} (g : Goes c t m) (hne : m.node ≠ t.self) : stateErr c (startS c t m) = 0 := by
 have h := g.first
 have hs := g.status
 rw [stateErr_iff] at h ⊢
 obtain ⟨hc, hh, hl, hv, hb⟩ := h
 refine ⟨hc, hh, hl, ?_, ?_⟩
 ·rw [votedVL] at hv ⊢
  exact ⟨hv.1, hv.2.1.put_mark _ _ (node_vote g hne), hv.2.2.1, hv.2.2.2⟩
 ·unfold bodyOk at hb ⊢
  rw [show (startS c t m).status = (firstS2 c t m).status from rfl]
  rw [hs] at hb ⊢
  exact hb
theorem leads_iff {c : Cfg} {s : State} (h : stateErr c s = 0) : leads c s = true ↔ primaryOf c s.view = s.self := by
 obtain ⟨v1, v2⟩ : 0 ≤ s.view ∧ s.view ≤ 4294967296 := by
  rw [stateErr_iff] at h
  obtain ⟨_, hh, _⟩ := h
  simp [headOff] at hh
  omega
 obtain ⟨_, _, _, _, gc⟩ := nodes_ok h
 unfold leads primaryOf
 rw [if_pos ⟨gc, v1, v2⟩, decide_eq_true_eq]
 exact eq_comm
theorem changing_of {c : Cfg} {u : State} (h : stateErr c u = 0) (hs : u.status = 2) : u.last < u.view ∧ u.acks = [] ∧ u.answers = [] ∧ (u.ballots.length : Int) < c.f ∧ (leads c u = true ∨ u.ballots = []) ∧ ∀ b ∈ u.ballots, 0 ≤ b.last ∧ b.last < u.view ∧ logOk c b.log b.commit = true := by
 rw [stateErr_iff] at h
 obtain ⟨_, _, _, _, hb⟩ := h
 unfold bodyOk at hb
 rw [if_neg (by omega), if_pos hs] at hb
 unfold changingOk at hb
 simp only [Bool.and_eq_true, Bool.not_eq_true', Bool.or_eq_false_iff, decide_eq_false_iff_not, Bool.not_eq_false', List.isEmpty_iff, Bool.or_eq_true, Option.isNone_iff_eq_none, List.find?_eq_none] at hb
 obtain ⟨⟨⟨⟨⟨h1, h2⟩, h3⟩, h4⟩, h5⟩, h6⟩ := hb
 refine ⟨by omega, h2, h3, by omega, h5, fun b hbm => ?_⟩
 have := h6 b hbm
 unfold badBal at this
 simp only [Bool.or_eq_true, decide_eq_true_eq, Bool.not_eq_true', not_or, Bool.not_eq_false] at this
 exact ⟨by omega, by omega, this.2⟩
theorem vote_ok2 {c : Cfg} {t : State} {m : Msg} (g : Goes c t m) (hk : m.kind = 7) (hne : m.node ≠ t.self) (hp : primaryOf c (firstS2 c t m).view = t.self) (hf : ¬ c.f ≤ (voteS c t m).ballots.length) : stateErr c (voteS c t m) = 0 := by
 have h := g.first
 have hs := g.status
 have hld : leads c (firstS2 c t m) = true := (leads_iff h).2 (by rw [hp, first_same.1])
 obtain ⟨c1, c2, c3, c4, _, c6⟩ := changing_of h hs
 obtain ⟨l1, l2, l3, l4⟩ := msg_log g.me (.inl hk)
 obtain ⟨a1, a2⟩ := msg_last g.me hk
 rw [stateErr_iff] at h ⊢
 obtain ⟨hc, hh, hl, hv, hb⟩ := h
 refine ⟨hc, hh, hl, ?_, ?_⟩
 ·rw [votedVL] at hv ⊢
  exact ⟨hv.1, hv.2.1, hv.2.2.1.put_bal _ _ (node_vote g hne), hv.2.2.2⟩
 ·unfold bodyOk
  rw [show (voteS c t m).status = (firstS2 c t m).status from rfl, if_neg (by omega), if_pos hs]
  unfold changingOk
  simp only [Bool.and_eq_true, Bool.not_eq_true', Bool.or_eq_false_iff, decide_eq_false_iff_not, Bool.not_eq_false', List.isEmpty_iff, Bool.or_eq_true, Option.isNone_iff_eq_none, List.find?_eq_none]
  refine ⟨⟨⟨⟨⟨?_, c2⟩, c3⟩, hf⟩, .inl hld⟩, fun b hbm => ?_⟩
  ·rw [show (voteS c t m).view = (firstS2 c t m).view from rfl, show (voteS c t m).last = (firstS2 c t m).last from rfl]; omega
  ·have key : 0 ≤ b.last ∧ b.last < (firstS2 c t m).view ∧ logOk c b.log b.commit = true := by
    rcases putL_mem _ _ _ _ _ hbm with rfl | hbm
    ·exact ⟨a1, by rw [g.view]; exact a2, by unfold logOk; simp [balOf, l1, l2, l3]⟩
    ·exact c6 b hbm
   unfold badBal
   rw [show (voteS c t m).view = (firstS2 c t m).view from rfl]
   simp [key.2.2]
   omega
theorem zeroOk {c : Cfg} {u : State} (hc : cfgOk c) (h1 : 0 ≤ u.self ∧ u.self < nodesOf c) (h2 : 0 ≤ u.view ∧ u.view ≤ 4294967296) (h3 : u.last = u.view) (h4 : u.idle = 0) (h5 : (u.vector.length : Int) = nodesOf c) (hl : logOk c u.log u.commit = true) (h6 : u.acks = [] ∧ u.marks = [] ∧ u.ballots = [] ∧ u.answers = []) (h7 : u.status = 1) : stateErr c u = 0 := by
 rw [stateErr_iff]
 have hc' := hc
 unfold cfgOk at hc'
 refine ⟨hc, ?_, hl, ?_, ?_⟩
 ·unfold headOff
  simp only [Bool.or_eq_false_iff, decide_eq_false_iff_not, Bool.not_eq_false', decide_eq_true_eq]
  refine ⟨⟨⟨⟨⟨⟨⟨⟨by omega, by omega⟩, by omega⟩, by omega⟩, by omega⟩, by omega⟩, by omega⟩, by omega⟩, h5⟩
 ·rw [votedVL, h6.1, h6.2.1, h6.2.2.1, h6.2.2.2]
  exact ⟨VL.nil, VL.nil, VL.nil, VL.nil⟩
 ·unfold bodyOk
  rw [if_pos h7]
  unfold normalOk
  simp [h3, h4, h6]
theorem head_of {c : Cfg} {s : State} (h : stateErr c s = 0) : cfgOk c ∧ (0 ≤ s.self ∧ s.self < nodesOf c) ∧ (0 ≤ s.view ∧ s.view ≤ 4294967296) ∧ (s.vector.length : Int) = nodesOf c ∧ logOk c s.log s.commit = true := by
 rw [stateErr_iff] at h
 obtain ⟨hc, hh, hl, _⟩ := h
 unfold headOff at hh
 simp only [Bool.or_eq_false_iff, decide_eq_false_iff_not, Bool.not_eq_false', decide_eq_true_eq] at hh
 obtain ⟨⟨⟨⟨⟨⟨⟨⟨h1, h2⟩, h3⟩, h4⟩, h5⟩, h6⟩, h7⟩, h8⟩, h9⟩ := hh
 exact ⟨hc, ⟨by omega, by omega⟩, ⟨by omega, by omega⟩, h9, hl⟩
theorem logOk_iff (c : Cfg) (l : List Ent) (k : Int) : logOk c l k = true ↔ logErr l c.room = 0 ∧ 0 ≤ k ∧ k ≤ l.length := by
 unfold logOk
 simp only [Bool.and_eq_true, decide_eq_true_eq]
 exact ⟨fun h => ⟨h.1.1, h.1.2, h.2⟩, fun h => ⟨⟨h.1, h.2.1⟩, h.2.2⟩⟩
theorem inst_ok {c : Cfg} {t : State} {m : Msg} (g : Goes c t m) (hk : m.kind = 8) : stateErr c (instS t m) = 0 := by
 obtain ⟨hc, h1, h2, h3, h4⟩ := head_of g.ok
 obtain ⟨_, _, _, v1, v2, _⟩ := msg_nums g.me
 obtain ⟨l1, l2, l3, l4⟩ := msg_log g.me (.inr hk)
 refine zeroOk hc h1 ⟨v1, v2⟩ rfl rfl h3 ?_ ⟨rfl, rfl, rfl, rfl⟩ rfl
 rw [logOk_iff] at h4 ⊢
 refine ⟨l1, ?_, ?_⟩ <;> simp only [instS] <;> omega
theorem best_ok {c : Cfg} {t : State} {m : Msg} (g : Goes c t m) (hk : m.kind = 7) : logErr (bestP (ownBal (voteS c t m)) (voteS c t m).ballots).log c.room = 0 := by
 have h := g.first
 have hs := g.status
 obtain ⟨_, _, _, _, _, c6⟩ := changing_of h hs
 obtain ⟨l1, _⟩ := msg_log g.me (.inl hk)
 obtain ⟨_, _, _, _, h4⟩ := head_of h
 rw [logOk_iff] at h4
 rcases bestP_mem (voteS c t m).ballots (ownBal (voteS c t m)) with e | e
 ·rw [e]; exact h4.1
 ·rcases putL_mem _ _ _ _ _ e with e2 | e2
  ·rw [e2]; exact l1
  ·have := (c6 _ e2).2.2
   rw [logOk_iff] at this
   exact this.1
theorem led_ok {c : Cfg} {t : State} {m : Msg} (g : Goes c t m) (hk : m.kind = 7) : stateErr c (ledS0 (voteS c t m) (bestP (ownBal (voteS c t m)) (voteS c t m).ballots).log) = 0 := by
 obtain ⟨hc, h1, h2, h3, h4⟩ := head_of g.first
 refine zeroOk hc h1 h2 rfl rfl h3 ?_ ⟨rfl, rfl, rfl, rfl⟩ rfl
 rw [logOk_iff] at h4 ⊢
 refine ⟨best_ok g hk, ?_, ?_⟩ <;> simp only [ledS0, voteS] <;> omega
theorem chosen_in (own : Ballot) (l : List Ballot) : 0 ≤ chosen own l ∧ chosen own l ≤ (bestP own l).log.length := by unfold chosen; omega
theorem carryErr_led {c : Cfg} {t : State} {m : Msg} (g : Goes c t m) (hk : m.kind = 7) : carryErr c (ledS0 (voteS c t m) (bestP (ownBal (voteS c t m)) (voteS c t m).ballots).log) (chosen (ownBal (voteS c t m)) (voteS c t m).ballots) = 0 := by
 have h := chosen_in (ownBal (voteS c t m)) (voteS c t m).ballots
 unfold carryErr
 rw [if_neg (by simp [led_ok g hk]), if_neg (by simp only [ledS0]; omega)]
def ledT (c : Cfg) (u : State) : State := { ledS0 u (bestP (ownBal u) u.ballots).log with commit := max (ledS0 u (bestP (ownBal u) u.ballots).log).commit (chosen (ownBal u) u.ballots) }
theorem leadS_eq {c : Cfg} {t : State} {m : Msg} (g : Goes c t m) (hk : m.kind = 7) : leadS c (voteS c t m) = ledT c (voteS c t m) := by
 unfold leadS ledT carryS
 rw [if_neg (by simp [carryErr_led g hk])]
 generalize voteS c t m = u
 split
 ·rename_i h
  rw [Int.max_eq_left h]
 ·rename_i h
  rw [Int.max_eq_right (by omega)]
theorem lead_ok {c : Cfg} {t : State} {m : Msg} (g : Goes c t m) (hk : m.kind = 7) : stateErr c (leadS c (voteS c t m)) = 0 := by
 rw [leadS_eq g hk]
 obtain ⟨hc, h1, h2, h3, h4⟩ := head_of g.first
 have hch := chosen_in (ownBal (voteS c t m)) (voteS c t m).ballots
 refine zeroOk hc h1 h2 rfl rfl h3 ?_ ⟨rfl, rfl, rfl, rfl⟩ rfl
 rw [logOk_iff] at h4 ⊢
 have h5 : (voteS c t m).commit = (firstS2 c t m).commit := rfl
 refine ⟨best_ok g hk, ?_, ?_⟩ <;> simp only [ledT, ledS0] <;> omega
theorem voted_ok {c : Cfg} {t : State} {m : Msg} (g : Goes c t m) (hk : m.kind = 7) (hne : m.node ≠ t.self) : stateErr c (votedS c t m) = 0 := by
 unfold votedS
 by_cases hp : primaryOf c (firstS2 c t m).view = t.self
 ·rw [if_neg (not_not_intro hp)]
  split
  ·exact lead_ok g hk
  ·rename_i hf; exact vote_ok2 g hk hne hp hf
 ·rw [if_pos hp]; exact g.first
theorem sus_ok {c : Cfg} {s : State} (h : susErr c s = 0) : stateErr c (susS c s) = 0 := by
 have he : stateErr c s = 0 := by
  unfold susErr at h
  split at h
  ·rename_i g; exact absurd h g
  ·rename_i g; simpa using g
 unfold susS
 rw [if_neg (by simp [h])]
 split
 ·exact go_ok he (by omega)
 ·exact he
end Go.Ax
namespace Go.Ax
set_option linter.all false
set_option maxRecDepth 10000
set_option linter.unusedSimpArgs false
set_option maxHeartbeats 4000000
theorem putL_twice {α : Type} (node : α → Int) (up : α → Bool) (v : α) (hv : up v = false) : ∀ l : List α, putL node up v (putL node up v l) = putL node up v l
 | [] => by simp [putL, hv]
 | x :: r => by
  by_cases h1 : node x = node v
  ·simp only [putL, if_pos h1]
   cases hu : up x
   ·simp [h1, hu]
   ·simp [hv]
  ·by_cases h2 : node v < node x
   ·simp only [putL, if_neg h1, if_pos h2]
    simp [hv]
   ·simp only [putL, if_neg h1, if_neg h2, putL_twice node up v hv r]
theorem upMark_self (v : Mark) : upMark v v = false := by simp [upMark, cmp_self]
theorem upBal_self (v : Ballot) : upBal v v = false := by simp [upBal, cmp_self, aboveBal, longerB]
theorem lives_same {v : List Draw} {k : Int} {d : Draw} (h : v.getD k.toNat ⟨0, 0⟩ = d) : lives v k d = true := by
 unfold lives
 rw [h, cmp_self]
 simp
theorem struck_self {c : Cfg} {X : State} (h : stateErr c X = 0) : struck X X.vector = X := by
 obtain ⟨h1, h2, h3, h4⟩ := votes_of h
 unfold struck
 have e1 : X.acks.filter (keepAck X.vector) = X.acks := List.filter_eq_self.2 fun x hx => lives_same (h1 x hx).2.2
 have e2 : X.marks.filter (keepMark X.vector) = X.marks := List.filter_eq_self.2 fun x hx => lives_same (h2 x hx).2.2
 have e3 : X.ballots.filter (keepBallot X.vector) = X.ballots := List.filter_eq_self.2 fun x hx => lives_same (h3 x hx).2.2
 have e4 : X.answers.filter (keepAnswer X.vector) = X.answers := List.filter_eq_self.2 fun x hx => lives_same (h4 x hx).2.2
 rw [e1, e2, e3, e4]
theorem adm_same {c : Cfg} {t X : State} {m : Msg} (hX : stateErr c X = 0) (ht : stateErr c t = 0) (hm : msgErr c m = 0) (hv : X.vector = t.vector) (hs : X.self = t.self) (h1 : admS c t m = t) (h2 : admB c t m = true) : admS c X m = X ∧ admB c X m = true := by
 have o1 : overB X m = overB t m := by unfold overB; rw [hv]
 have o2 : aheadB X m = aheadB t m := by unfold aheadB; rw [hv, hs]
 have z1 := adm_zero hX hm
 have z2 := adm_zero ht hm
 constructor
 ·unfold admS at h1 ⊢
  rw [o1, o2, hs]
  simp only [z1, z2, ne_eq, not_true_eq_false, if_false] at h1 ⊢
  split
  ·rfl
  ·split
   ·rfl
   ·split
    ·rfl
    ·split
     ·rfl
     ·split
      ·rfl
      ·rename_i a1 a2 a3 a4 a5
       rw [if_neg a1, if_neg a2, if_neg a3, if_neg a4, if_neg a5] at h1
       have : mxv t.vector m.vector = t.vector := congrArg State.vector h1
       rw [hv, this, ← hv]
       exact struck_self hX
 ·unfold admB at h2 ⊢
  rw [o1, o2, hs]
  simp only [z1, z2, ne_eq, not_true_eq_false, if_false] at h2 ⊢
  exact h2
theorem first_eq {c : Cfg} {X : State} {m : Msg} (h : X.view = m.view) : firstS2 c X m = X ∧ firstL c X m = [] := by
 unfold firstS2 firstL
 rw [if_neg (by omega), if_neg (by omega)]
 exact ⟨rfl, rfl⟩
theorem startS_same {c : Cfg} {X : State} {m : Msg} (h : X.view = m.view) : startS c X m = { X with marks := putMark X.marks (markOf X m.node) } := by
 unfold startS
 rw [(first_eq h).1]
theorem voteS_same {c : Cfg} {X : State} {m : Msg} (h : X.view = m.view) : voteS c X m = { X with ballots := putBal X.ballots (balOf X m) } := by
 unfold voteS
 rw [(first_eq h).1]
theorem step_again {k : Int} (hk : k = 6 ∨ k = 7 ∨ k = 8) {c : Cfg} {t : State} {m : Msg} (hkd : m.kind = k) (g : Goes c t m) (hne : m.node ≠ t.self) :
  stateErr c (stepS k c t m) = 0 ∧ (stepS k c t m).vector = t.vector ∧ (stepS k c t m).self = t.self ∧ stepS k c (stepS k c t m) m = stepS k c t m ∧ stepL k c (stepS k c t m) m = [] := by
 have hns : ¬ (t.status = 3 ∨ stale t m) := fun h => h.elim g.st g.ns
 have f1 := first_same (c := c) (t := t) (m := m)
 have fv := g.view
 have fs := g.status
 have stl : ∀ X : State, X.view = m.view → X.status = 1 → stepS k c X m = X ∧ stepL k c X m = [] := by
  intro X h1 h2
  unfold stepS stepL
  have : X.status = 3 ∨ stale X m := .inr (.inr ⟨h1.symm, h2⟩)
  rw [if_pos this, if_pos this]
  exact ⟨rfl, rfl⟩
 have run : ∀ X : State, X.view = m.view → X.status = 2 → ¬ (X.status = 3 ∨ stale X m) := by
  intro X h1 h2 h
  unfold stale at h
  omega
 rcases hk with rfl | rfl | rfl
 ·have e : stepS 6 c t m = startS c t m := by unfold stepS; rw [if_neg hns, if_pos rfl]
  rw [e]
  refine ⟨start_ok g hne, f1.2.2.2.2, f1.1, ?_⟩
  have hr := run (startS c t m) fv fs
  have hf := first_eq (c := c) (X := startS c t m) (m := m) fv
  have hX : startS c (startS c t m) m = startS c t m := by
   have hmk : markOf (startS c t m) m.node = markOf t m.node := by
    unfold markOf
    rw [show drawAt (startS c t m) m.node = drawAt (firstS2 c t m) m.node from rfl, drawAt_first]
   have := startS_same (c := c) (X := startS c t m) (m := m) fv
   rw [this, hmk]
   have h2 : putMark (startS c t m).marks (markOf t m.node) = (startS c t m).marks := putL_twice _ _ _ (upMark_self _) _
   rw [h2]
  unfold stepS stepL
  rw [if_neg hr, if_neg hr, if_pos rfl, if_pos rfl]
  refine ⟨hX, ?_⟩
  unfold startL
  rw [hX, hf.1, hf.2, if_neg (fun h => h.1 h.2)]
  rfl
 ·have e : stepS 7 c t m = votedS c t m := by unfold stepS; rw [if_neg hns, if_neg (by decide), if_pos rfl]
  rw [e]
  refine ⟨voted_ok g hkd hne, ?_⟩
  unfold votedS
  by_cases hp : primaryOf c (firstS2 c t m).view = t.self
  ·rw [if_neg (not_not_intro hp)]
   by_cases hf : c.f ≤ (voteS c t m).ballots.length
   ·rw [if_pos hf, leadS_eq g hkd]
    exact ⟨f1.2.2.2.2, f1.1, stl _ fv rfl⟩
   ·rw [if_neg hf]
    refine ⟨f1.2.2.2.2, f1.1, ?_⟩
    have hr := run (voteS c t m) fv fs
    have hfe := first_eq (c := c) (X := voteS c t m) (m := m) fv
    have hX : voteS c (voteS c t m) m = voteS c t m := by
     have hmk : balOf (voteS c t m) m = balOf t m := by
      unfold balOf
      rw [show drawAt (voteS c t m) m.node = drawAt (firstS2 c t m) m.node from rfl, drawAt_first]
     have := voteS_same (c := c) (X := voteS c t m) (m := m) fv
     rw [this, hmk]
     have h2 : putBal (voteS c t m).ballots (balOf t m) = (voteS c t m).ballots := putL_twice _ _ _ (upBal_self _) _
     rw [h2]
    have hp2 : ¬ primaryOf c (voteS c t m).view ≠ (voteS c t m).self := by
     rw [show (voteS c t m).view = (firstS2 c t m).view from rfl, show (voteS c t m).self = (firstS2 c t m).self from rfl, f1.1]
     exact not_not_intro hp
    unfold stepS stepL
    rw [if_neg hr, if_neg hr, if_neg (show ¬ (7 : Int) = 6 by decide), if_neg (show ¬ (7 : Int) = 6 by decide), if_pos rfl, if_pos rfl]
    unfold votedS votedL
    rw [hfe.1, hfe.2, hX, if_neg hp2, if_neg hf, if_neg hp2, if_neg hf]
    exact ⟨rfl, rfl⟩
  ·rw [if_pos hp]
   refine ⟨f1.2.2.2.2, f1.1, ?_⟩
   have hr := run (firstS2 c t m) fv fs
   have hfe := first_eq (c := c) (X := firstS2 c t m) (m := m) fv
   have hp2 : primaryOf c (firstS2 c t m).view ≠ (firstS2 c t m).self := by rw [f1.1]; exact hp
   unfold stepS stepL
   rw [if_neg hr, if_neg hr, if_neg (show ¬ (7 : Int) = 6 by decide), if_neg (show ¬ (7 : Int) = 6 by decide), if_pos rfl, if_pos rfl]
   unfold votedS votedL
   rw [hfe.1, hfe.2, if_pos hp2, if_pos hp2]
   exact ⟨rfl, rfl⟩
 ·have e : stepS 8 c t m = instS t m := by unfold stepS; rw [if_neg hns, if_neg (by decide), if_neg (by decide)]
  rw [e]
  exact ⟨inst_ok g hkd, rfl, rfl, stl _ rfl rfl⟩
theorem call_again {k : Int} (hk : k = 6 ∨ k = 7 ∨ k = 8) {c : Cfg} {s : State} {m : Msg} (hE : kErr c s m k = 0) :
  stateErr c (callS k c s m) = 0 ∧ kErr c (callS k c s m) m k = 0 ∧ callS k c (callS k c s m) m = callS k c s m ∧ callL k c (callS k c s m) m = [] := by
 obtain ⟨he, hkd, hme⟩ := kErr_zero hE
 have hok := admS_ok he hme
 obtain ⟨q1, q2⟩ := adm_again he hme
 have hsf := admS_self he hme
 have hbk : between m.kind = true := between_kind hkd (by omega)
 have fin : ∀ X : State, stateErr c X = 0 → admS c X m = X → (admB c X m = false ∨ stepS k c X m = X ∧ stepL k c X m = []) → stateErr c X = 0 ∧ kErr c X m k = 0 ∧ callS k c X m = X ∧ callL k c X m = [] := by
  intro X h1 h2 h3
  have hk0 : kErr c X m k = 0 := by unfold kErr; rw [if_neg (by simp [h1]), if_neg (by simp [hkd])]; exact hme
  refine ⟨h1, hk0, ?_⟩
  unfold callS callL
  simp only [hk0, ne_eq, not_true_eq_false, if_false, h2]
  rcases h3 with h3 | ⟨h3, h4⟩
  ·simp only [h3, if_true, and_self]
  ·simp only [h3, h4, ite_self, and_self]
 have hS : callS k c s m = if admB c s m = false then admS c s m else stepS k c (admS c s m) m := by unfold callS; simp only [hE, ne_eq, not_true_eq_false, if_false]
 rw [hS]
 cases hB : admB c s m
 ·simp only [if_true]
  rw [hB] at q2
  exact fin _ hok q1 (.inl q2)
 ·simp only [Bool.true_eq_false, if_false]
  rw [hB] at q2
  have hne : m.node ≠ (admS c s m).self := by rw [hsf]; exact admB_node hB hbk
  generalize admS c s m = t at *
  by_cases hst : t.status = 3 ∨ stale t m
  ·have e1 : stepS k c t m = t := by unfold stepS; rw [if_pos hst]
   have e2 : stepL k c t m = [] := by unfold stepL; rw [if_pos hst]
   rw [e1]
   exact fin _ hok q1 (.inr ⟨e1, e2⟩)
  ·have g : Goes c t m := ⟨hok, hme, fun h => hst (.inl h), fun h => hst (.inr h)⟩
   obtain ⟨a1, a2, a3, a4, a5⟩ := step_again hk hkd g hne
   obtain ⟨b1, b2⟩ := adm_same a1 hok hme a2 a3 q1 q2
   exact fin _ a1 b1 (.inr ⟨a4, a5⟩)
def cnt (k : Int) (l : List Send) : Nat := l.countP (fun x => decide (x.msg.kind = k))
theorem cnt_zero {k : Int} {l : List Send} (h : ∀ x ∈ l, x.msg.kind ≠ k) : cnt k l = 0 := by
 unfold cnt
 rw [List.countP_eq_zero]
 intro x hx
 simpa using h x hx
theorem cnt_app (k : Int) (a b : List Send) : cnt k (a ++ b) = cnt k a + cnt k b := by unfold cnt; rw [List.countP_append]
theorem goTo_mem {s : State} {m : Msg} : ∀ (l : List Nat) (acc : List Send) (x : Send), x ∈ l.foldl (goTo s m) acc → x ∈ acc ∨ ∃ i ∈ l, (i : Int) ≠ s.self ∧ x = outM s i m
 | [], acc, x, h => .inl h
 | i :: r, acc, x, h => by
  rcases goTo_mem r (goTo s m acc i) x h with h | ⟨j, hj, h1, h2⟩
  ·unfold goTo at h
   split at h
   ·exact .inl h
   ·rename_i hi
    rcases List.mem_append.1 h with h | h
    ·exact .inl h
    ·exact .inr ⟨i, by simp, hi, List.mem_singleton.1 h⟩
  ·exact .inr ⟨j, by simp [hj], h1, h2⟩
theorem allR_mem {c : Cfg} {s : State} {m : Msg} {x : Send} (h : x ∈ allR c s m) : stateErr c s = 0 ∧ ∃ i : Nat, (i : Int) < nodesOf c ∧ (i : Int) ≠ s.self ∧ x = outM s i m := by
 unfold allR at h
 split at h
 ·rename_i he
  refine ⟨he, ?_⟩
  unfold allS at h
  rcases goTo_mem _ _ _ h with h | ⟨i, hi, h1, h2⟩
  ·cases h
  ·rw [List.mem_range] at hi
   exact ⟨i, by omega, h1, h2⟩
 ·cases h
theorem allR_kind {c : Cfg} {s : State} {m : Msg} : ∀ x ∈ allR c s m, x.msg.kind = m.kind := by
 intro x hx
 obtain ⟨_, i, _, _, rfl⟩ := allR_mem hx
 rfl
theorem firstL_kind {c : Cfg} {t : State} {m : Msg} : ∀ x ∈ firstL c t m, x.msg.kind = 6 := by
 intro x hx
 unfold firstL at hx
 split at hx
 ·exact allR_kind x hx
 ·cases hx
theorem oneS_kind (c : Cfg) (s : State) (to : Int) (m : Msg) : (oneS c s to m).msg.kind = m.kind ∨ (oneS c s to m).msg.kind = 0 := by
 unfold oneS
 split
 ·exact .inr rfl
 ·exact .inl rfl
theorem carryL_kind {c : Cfg} {s : State} {to : Int} : ∀ x ∈ carryL c s to, x.msg.kind = 2 := by
 intro x hx
 unfold carryL at hx
 split at hx
 ·cases hx
 ·split at hx
  ·cases hx
  ·split at hx
   ·split at hx
    ·obtain ⟨r, _, rfl⟩ := List.mem_map.1 hx
     rfl
    ·cases hx
   ·cases hx
theorem count_start (c : Cfg) (t : State) (m : Msg) : cnt 8 (startL c t m) = 0 ∧ cnt 7 (startL c t m) ≤ 1 ∧ (cnt 7 (startL c t m) ≠ 0 → c.f ≤ (startS c t m).marks.length) := by
 have h1 : cnt 8 (firstL c t m) = 0 := cnt_zero fun x hx => by rw [firstL_kind x hx]; decide
 have h2 : cnt 7 (firstL c t m) = 0 := cnt_zero fun x hx => by rw [firstL_kind x hx]; decide
 unfold startL
 rw [cnt_app, cnt_app, h1, h2]
 split
 ·rename_i h
  refine ⟨?_, ?_, fun _ => h.2⟩
  ·rw [Nat.zero_add]
   refine cnt_zero fun x hx => ?_
   unfold ballL at hx
   split at hx
   ·cases hx
   ·rw [List.mem_singleton.1 hx]
    rcases oneS_kind c (startS c t m) (primaryOf c (startS c t m).view) (dvcM (startS c t m)) with e | e
    ·rw [e]; exact (show (7 : Int) ≠ 8 by decide)
    ·rw [e]; decide
  ·rw [Nat.zero_add]
   refine Nat.le_trans List.countP_le_length ?_
   unfold ballL
   split <;> simp
 ·exact ⟨rfl, by simp [cnt], fun h => absurd rfl h⟩
theorem count_voted {c : Cfg} {t : State} {m : Msg} (g : Goes c t m) (hk : m.kind = 7) : cnt 7 (votedL c t m) = 0 ∧ (cnt 8 (votedL c t m) ≠ 0 → c.f ≤ (voteS c t m).ballots.length ∧ (votedS c t m).status = 1) := by
 have h1 : cnt 8 (firstL c t m) = 0 := cnt_zero fun x hx => by rw [firstL_kind x hx]; decide
 have h2 : cnt 7 (firstL c t m) = 0 := cnt_zero fun x hx => by rw [firstL_kind x hx]; decide
 unfold votedL votedS
 rw [cnt_app, cnt_app, h1, h2]
 split
 ·exact ⟨rfl, fun h => absurd rfl h⟩
 ·split
  ·rename_i hf
   refine ⟨?_, fun _ => ⟨hf, ?_⟩⟩
   ·rw [Nat.zero_add]
    refine cnt_zero fun x hx => ?_
    unfold leadL at hx
    rcases List.mem_append.1 hx with hx | hx
    ·rw [allR_kind x hx]; exact (show (8 : Int) ≠ 7 by decide)
    ·rw [carryL_kind x hx]; decide
   ·rw [leadS_eq g hk]; rfl
  ·exact ⟨rfl, fun h => absurd rfl h⟩
theorem count_inst (c : Cfg) (t : State) (m : Msg) : cnt 7 (instL c t m) = 0 ∧ cnt 8 (instL c t m) = 0 := by
 unfold instL
 split
 ·constructor
  ·refine cnt_zero fun x hx => ?_
   rw [List.mem_singleton.1 hx]
   rcases oneS_kind c (instS t m) m.node (pokM m.view m.log) with e | e
   ·rw [e]; exact (show (4 : Int) ≠ 7 by decide)
   ·rw [e]; decide
  ·refine cnt_zero fun x hx => ?_
   rw [List.mem_singleton.1 hx]
   rcases oneS_kind c (instS t m) m.node (pokM m.view m.log) with e | e
   ·rw [e]; exact (show (4 : Int) ≠ 8 by decide)
   ·rw [e]; decide
 ·exact ⟨rfl, rfl⟩
theorem count_sus (c : Cfg) (s : State) : cnt 7 (susL c s) = 0 ∧ cnt 8 (susL c s) = 0 := by
 have h : ∀ x ∈ susL c s, x.msg.kind = 6 := by
  intro x hx
  unfold susL at hx
  split at hx
  ·cases hx
  ·split at hx
   ·exact allR_kind x hx
   ·cases hx
 exact ⟨cnt_zero fun x hx => by rw [h x hx]; decide, cnt_zero fun x hx => by rw [h x hx]; decide⟩
theorem count_call {k : Int} (hk : k = 6 ∨ k = 7 ∨ k = 8) {c : Cfg} {s : State} {m : Msg} (hE : kErr c s m k = 0) :
  cnt 7 (callL k c s m) ≤ 1 ∧ (cnt 7 (callL k c s m) ≠ 0 → k = 6 ∧ c.f ≤ (callS k c s m).marks.length) ∧ (cnt 8 (callL k c s m) ≠ 0 → k = 7 ∧ c.f - 1 ≤ s.ballots.length ∧ (callS k c s m).status = 1) := by
 obtain ⟨he, hkd, hme⟩ := kErr_zero hE
 have hok := admS_ok he hme
 have hsh := (adm_short he hme).2.2.2.1
 unfold callS callL
 simp only [hE, ne_eq, not_true_eq_false, if_false]
 have nil : ∀ k, cnt k [] = 0 := fun k => rfl
 cases hB : admB c s m
 ·simp only [if_true, nil]; simp
 ·simp only [Bool.true_eq_false, if_false]
  generalize admS c s m = t at *
  unfold stepS stepL
  by_cases hst : t.status = 3 ∨ stale t m
  ·rw [if_pos hst, if_pos hst]; simp only [nil]; simp
  ·rw [if_neg hst, if_neg hst]
   have g : Goes c t m := ⟨hok, hme, fun h => hst (.inl h), fun h => hst (.inr h)⟩
   rcases hk with rfl | rfl | rfl
   ·rw [if_pos rfl, if_pos rfl]
    obtain ⟨a1, a2, a3⟩ := count_start c t m
    exact ⟨a2, fun h => ⟨rfl, a3 h⟩, fun h => absurd a1 h⟩
   ·rw [if_neg (show ¬ (7 : Int) = 6 by decide), if_neg (show ¬ (7 : Int) = 6 by decide), if_pos rfl, if_pos rfl]
    obtain ⟨a1, a2⟩ := count_voted g hkd
    refine ⟨by omega, fun h => absurd a1 h, fun h => ⟨rfl, ?_, (a2 h).2⟩⟩
    have h1 := (a2 h).1
    have h2 : (voteS c t m).ballots.length ≤ (firstS2 c t m).ballots.length + 1 := putL_length _ _ _ _
    have h3 : (firstS2 c t m).ballots.length ≤ t.ballots.length := by
     unfold firstS2
     split
     ·simp [goS]
     ·exact Nat.le_refl _
    omega
   ·rw [if_neg (show ¬ (8 : Int) = 6 by decide), if_neg (show ¬ (8 : Int) = 6 by decide), if_neg (show ¬ (8 : Int) = 7 by decide), if_neg (show ¬ (8 : Int) = 7 by decide)]
    obtain ⟨a1, a2⟩ := count_inst c t m
    exact ⟨by omega, fun h => absurd a1 h, fun h => absurd a2 h⟩
end Go.Ax
namespace Go.Ax
set_option linter.all false
set_option maxRecDepth 10000
set_option linter.unusedSimpArgs false
set_option maxHeartbeats 4000000
def g_key (a : Int × Int) (b : Ballot) : Int × Int := if a.1 < b.last ∨ b.last = a.1 ∧ a.2 < b.log.length then (b.last, (b.log.length : Int)) else a
theorem key_fold : ∀ (l : List Ballot) (a : Int × Int), (a.1 < (l.foldl g_key a).1 ∨ a.1 = (l.foldl g_key a).1 ∧ a.2 ≤ (l.foldl g_key a).2) ∧ (∀ x ∈ l, x.last < (l.foldl g_key a).1 ∨ x.last = (l.foldl g_key a).1 ∧ (x.log.length : Int) ≤ (l.foldl g_key a).2) ∧ (l.foldl g_key a = a ∨ ∃ x ∈ l, l.foldl g_key a = (x.last, (x.log.length : Int)))
 | [], a => ⟨by simp, by simp, by simp⟩
 | x :: r, a => by
  obtain ⟨h1, h2, h3⟩ := key_fold r (g_key a x)
  rw [List.foldl_cons]
  have hg : (g_key a x = a ∧ ¬ (a.1 < x.last ∨ x.last = a.1 ∧ a.2 < x.log.length)) ∨ (g_key a x = (x.last, (x.log.length : Int)) ∧ (a.1 < x.last ∨ x.last = a.1 ∧ a.2 < x.log.length)) := by
   unfold g_key
   split
   ·rename_i h; exact .inr ⟨rfl, h⟩
   ·rename_i h; exact .inl ⟨rfl, h⟩
  rcases hg with ⟨e, hn⟩ | ⟨e, hn⟩
  ·rw [e] at h1 h2 h3 ⊢
   refine ⟨h1, fun y hy => ?_, ?_⟩
   ·rcases List.mem_cons.1 hy with rfl | hy
    ·omega
    ·exact h2 y hy
   ·rcases h3 with h3 | ⟨y, hy, h3⟩
    ·exact .inl h3
    ·exact .inr ⟨y, by simp [hy], h3⟩
  ·rw [e] at h1 h2 h3 ⊢
   simp only at h1
   refine ⟨by omega, fun y hy => ?_, ?_⟩
   ·rcases List.mem_cons.1 hy with rfl | hy
    ·exact h1
    ·exact h2 y hy
   ·rcases h3 with h3 | ⟨y, hy, h3⟩
    ·exact .inr ⟨x, by simp, h3⟩
    ·exact .inr ⟨y, by simp [hy], h3⟩
theorem key_max {l : List Ballot} {B : Ballot} (hm : ∃ x ∈ l, x.last = B.last ∧ x.log = B.log) (hg : ∀ x ∈ l, x.last < B.last ∨ x.last = B.last ∧ x.log.length ≤ B.log.length) (h0 : 0 ≤ B.last) : l.foldl g_key (-1, -1) = (B.last, (B.log.length : Int)) := by
 obtain ⟨h1, h2, h3⟩ := key_fold l (-1, -1)
 obtain ⟨x, hx, e1, e2⟩ := hm
 have h4 := h2 x hx
 rw [e1, e2] at h4
 rcases h3 with h3 | ⟨y, hy, h3⟩
 ·rw [h3] at h4
  simp only at h4
  omega
 ·rw [h3] at h4 ⊢
  simp only at h4
  have := hg y hy
  have : y.last = B.last ∧ (y.log.length : Int) = B.log.length := by omega
  rw [this.1, this.2]
theorem putL_len_same {α : Type} (node : α → Int) (up : α → Bool) (v : α) (l : List α) (hs : l.Pairwise (fun a b => node a < node b)) (h : ∃ x ∈ l, node x = node v) : (putL node up v l).length = l.length := by
 obtain ⟨x, hx, he⟩ := h
 obtain ⟨j, hj, rfl⟩ := List.mem_iff_getElem.1 hx
 rw [putL_same node up v l j hj hs he]
 simp
 omega
theorem putL_grew {α : Type} (node : α → Int) (up : α → Bool) (v : α) (l : List α) (hs : l.Pairwise (fun a b => node a < node b)) (h : l.length < (putL node up v l).length) : ∀ y, y ∈ putL node up v l ↔ y = v ∨ y ∈ l := by
 refine putL_perm node up v l fun x hx he => ?_
 have := putL_len_same node up v l hs ⟨x, hx, he⟩
 omega
theorem goTo_count {s : State} {m : Msg} : ∀ (l : List Nat) (acc : List Send), (l.foldl (goTo s m) acc).length = acc.length + l.countP (fun i : Nat => decide ((i : Int) ≠ s.self))
 | [], acc => by simp
 | i :: r, acc => by
  rw [List.foldl_cons, goTo_count r, List.countP_cons]
  unfold goTo
  by_cases h : (i : Int) = s.self
  ·simp [h]
  ·simp [h]; omega
theorem range_ne (k : Int) : ∀ N : Nat, (List.range N).countP (fun i : Nat => decide ((i : Int) ≠ k)) = if 0 ≤ k ∧ k < N then N - 1 else N
 | 0 => by simp
 | N + 1 => by
  rw [List.range_succ, List.countP_append, range_ne k N, List.countP_cons, List.countP_nil]
  by_cases h : (N : Int) = k
  ·have h1 : ¬ (0 ≤ k ∧ k < (N : Int)) := by omega
   have h2 : 0 ≤ k ∧ k < ((N + 1 : Nat) : Int) := by omega
   rw [if_neg h1, if_pos h2]
   simp [h]
  ·simp only [h, ne_eq, not_false_eq_true, decide_true, if_true]
   split
   ·rw [if_pos (by omega)]; omega
   ·rw [if_neg (by omega)]
theorem allR_len {c : Cfg} {s : State} {m : Msg} (h : stateErr c s = 0) : ((allR c s m).length : Int) = 2 * c.f := by
 obtain ⟨hc, h1, _⟩ := head_of h
 unfold allR
 rw [if_pos h]
 unfold allS
 rw [goTo_count, range_ne]
 have hN : nodesOf c = 2 * c.f + 1 := by unfold nodesOf; rw [if_pos hc]
 unfold cfgOk at hc
 have hT : ((nodesOf c).toNat : Int) = 2 * c.f + 1 := by omega
 rw [if_pos (by omega)]
 simp
 omega
abbrev zB (last commit : Int) (log : List Ent) : Ballot := ⟨0, ⟨0, 0⟩, last, commit, log⟩
def allB (s : State) (m : Msg) : List Ballot := (if s.view < m.view then [] else s.ballots) ++ [zB s.last s.commit s.log, zB m.last m.commit m.log]
structure Chosen (c : Cfg) (s : State) (m : Msg) (X : State) (L : List Send) : Prop where
 view : s.view ≤ m.view
 self : s.self = primaryOf c m.view
 xview : X.view = m.view
 xlast : X.last = m.view
 long : ((allB s m).foldl g_key (-1, -1)).2 = X.log.length
 found : ∃ x ∈ allB s m, x.last = ((allB s m).foldl g_key (-1, -1)).1 ∧ x.log = X.log
 com1 : ¬ (X.commit < s.commit ∧ X.commit < X.log.length)
 com2 : ¬ (X.commit < m.commit ∧ X.commit < X.log.length)
 sends : ∀ x ∈ L, x.msg.kind = 8 → x.msg.log = X.log ∧ x.msg.commit ≤ X.commit
 num : (cnt 8 L : Int) = 2 * c.f
theorem adm_head {c : Cfg} {s : State} {m : Msg} (he : stateErr c s = 0) (hm : msgErr c m = 0) : (admS c s m).view = s.view ∧ (admS c s m).status = s.status ∧ (admS c s m).last = s.last ∧ (admS c s m).log = s.log ∧ (admS c s m).commit = s.commit := by
 unfold admS
 rw [if_neg (by simp [adm_zero he hm])]
 repeat' split
 all_goals exact ⟨rfl, rfl, rfl, rfl, rfl⟩
theorem adm_ballots {c : Cfg} {s : State} {m : Msg} (he : stateErr c s = 0) (hm : msgErr c m = 0) : ∃ p : Ballot → Bool, (admS c s m).ballots = s.ballots.filter p := by
 unfold admS
 rw [if_neg (by simp [adm_zero he hm])]
 have h0 : s.ballots = s.ballots.filter (fun _ => true) := (List.filter_eq_self.2 fun _ _ => rfl).symm
 repeat' split
 all_goals first | exact ⟨_, h0⟩ | exact ⟨keepBallot (mxv s.vector m.vector), rfl⟩
theorem choice_led {c : Cfg} {s : State} {m : Msg} (he : stateErr c s = 0) (hkd : m.kind = 7) (g : Goes c (admS c s m) m) (hp : primaryOf c (firstS2 c (admS c s m) m).view = (admS c s m).self) (hf : c.f ≤ (voteS c (admS c s m) m).ballots.length) (hneT : m.node ≠ (admS c s m).self) :
  Chosen c s m (leadS c (voteS c (admS c s m) m)) (votedL c (admS c s m) m) := by
 obtain ⟨b1, b2, b3, b4, b5⟩ := adm_head he g.me
 have b6 := admS_self he g.me
 obtain ⟨p, b7⟩ := adm_ballots he g.me
 have hld := led_ok g hkd
 have hcl := carryErr_led g hkd
 rw [leadS_eq g hkd]
 generalize admS c s m = t at *
 have fv := g.view
 obtain ⟨f1, f2, f3, f4, f5⟩ := first_same (c := c) (t := t) (m := m)
 have hsrt := first_sorted (m := m) g.ok
 have hns := g.ns
 have h3 := g.st
 have hst := status_of g.ok
 have hbs : (firstS2 c t m).ballots = if s.view < m.view then [] else s.ballots := by
  have h1 : (voteS c t m).ballots.length ≤ (firstS2 c t m).ballots.length + 1 := putL_length _ _ _ _
  rw [← b1]
  unfold firstS2 at h1 ⊢
  by_cases hv : t.view < m.view
  ·rw [if_pos hv, if_pos hv]; rfl
  ·rw [if_neg hv] at h1 ⊢
   rw [if_neg hv]
   have hs2 : s.status = 2 := by
    unfold stale at hns
    omega
   have := (changing_of he hs2).2.2.2.1
   rw [b7] at h1 ⊢
   have hle := List.length_filter_le p s.ballots
   have hlen : (s.ballots.filter p).length = s.ballots.length := by omega
   exact List.filter_eq_self.2 (List.length_filter_eq_length_iff.1 hlen)
 have hgrew : (firstS2 c t m).ballots.length < (voteS c t m).ballots.length := by
  have := (changing_of g.first g.status).2.2.2.1
  omega
 have hmem : ∀ y, y ∈ (voteS c t m).ballots ↔ y = balOf t m ∨ y ∈ (firstS2 c t m).ballots := putL_grew (fun x : Ballot => x.node) (upBal (balOf t m)) (balOf t m) (firstS2 c t m).ballots hsrt.1 hgrew
 have hne : ∀ y ∈ [ownBal (voteS c t m)], ∀ x ∈ (voteS c t m).ballots, y.node ≠ x.node := by
  intro y hy x hx
  rw [List.mem_singleton.1 hy, show (ownBal (voteS c t m)).node = (firstS2 c t m).self from rfl, f1]
  rcases (hmem x).1 hx with rfl | hx
  ·exact fun e => hneT e.symm
  ·exact fun e => hsrt.2 x hx e.symm
 have hbest := bestP_best (voteS c t m).ballots (ownBal (voteS c t m)) [ownBal (voteS c t m)] ⟨by simp, fun x hx => by rw [List.mem_singleton.1 hx]; unfold geB; omega, fun x hx _ => by rw [List.mem_singleton.1 hx]; exact Int.le_refl _⟩ hne (putL_sorted _ _ _ _ hsrt.1)
 have hch := chosen_in (ownBal (voteS c t m)) (voteS c t m).ballots
 have hmost := fold_max_mem (voteS c t m).ballots (ownBal (voteS c t m)).commit
 have hcd : chosen (ownBal (voteS c t m)) (voteS c t m).ballots = max 0 (min (mostP (ownBal (voteS c t m)) (voteS c t m).ballots) (bestP (ownBal (voteS c t m)) (voteS c t m).ballots).log.length) := rfl
 have hmp : mostP (ownBal (voteS c t m)) (voteS c t m).ballots = (voteS c t m).ballots.foldl (fun a b => max a b.commit) (ownBal (voteS c t m)).commit := rfl
 have hvin : balOf t m ∈ (voteS c t m).ballots := (hmem _).2 (.inl rfl)
 have hmc := hmost.2.1 _ hvin
 rw [← hmp] at hmc
 have hlast : 0 ≤ s.last := by
  rw [stateErr_iff] at he
  obtain ⟨_, hh, _⟩ := he
  simp [headOff] at hh
  omega
 have o1 : (ownBal (voteS c t m)).last = s.last := by rw [← b3, ← f2]; rfl
 have o2 : (ownBal (voteS c t m)).log = s.log := by rw [← b4, ← f3]; rfl
 have hXl : (ledT c (voteS c t m)).log = (bestP (ownBal (voteS c t m)) (voteS c t m).ballots).log := rfl
 have hXc : (ledT c (voteS c t m)).commit = max (min s.commit (bestP (ownBal (voteS c t m)) (voteS c t m).ballots).log.length) (chosen (ownBal (voteS c t m)) (voteS c t m).ballots) := by
  have : (voteS c t m).commit = s.commit := by rw [← b5, ← f4]; rfl
  unfold ledT ledS0
  simp only [this]
 have hsend : votedL c t m = firstL c t m ++ leadL c (voteS c t m) := by
  unfold votedL
  rw [if_neg (not_not_intro hp), if_pos hf]
 have hlead : leadL c (voteS c t m) = allR c (ledS0 (voteS c t m) (bestP (ownBal (voteS c t m)) (voteS c t m).ballots).log) (svM (voteS c t m) (bestP (ownBal (voteS c t m)) (voteS c t m).ballots).log (chosen (ownBal (voteS c t m)) (voteS c t m).ballots)) ++ carryL c (ledS0 (voteS c t m) (bestP (ownBal (voteS c t m)) (voteS c t m).ballots).log) (chosen (ownBal (voteS c t m)) (voteS c t m).ballots) := rfl
 rw [hsend, hlead]
 rw [hbs] at hmem
 have hxv : (ledT c (voteS c t m)).view = m.view := fv
 have hxl : (ledT c (voteS c t m)).last = m.view := fv
 have hk : (allB s m).foldl g_key (-1, -1) = ((bestP (ownBal (voteS c t m)) (voteS c t m).ballots).last, ((bestP (ownBal (voteS c t m)) (voteS c t m).ballots).log.length : Int)) ∧ ∃ x ∈ allB s m, x.last = (bestP (ownBal (voteS c t m)) (voteS c t m).ballots).last ∧ x.log = (bestP (ownBal (voteS c t m)) (voteS c t m).ballots).log := by
  have hex : ∃ x ∈ allB s m, x.last = (bestP (ownBal (voteS c t m)) (voteS c t m).ballots).last ∧ x.log = (bestP (ownBal (voteS c t m)) (voteS c t m).ballots).log := by
   rcases List.mem_append.1 hbest.mem with h | h
   ·rw [List.mem_singleton.1 h]
    exact ⟨zB s.last s.commit s.log, by simp [allB], o1.symm, o2.symm⟩
   ·rcases (hmem _).1 h with h | h
    ·rw [h]
     exact ⟨zB m.last m.commit m.log, by simp [allB], rfl, rfl⟩
    ·exact ⟨_, by unfold allB; exact List.mem_append.2 (.inl h), rfl, rfl⟩
  have hge : ∀ x ∈ allB s m, x.last < (bestP (ownBal (voteS c t m)) (voteS c t m).ballots).last ∨ x.last = (bestP (ownBal (voteS c t m)) (voteS c t m).ballots).last ∧ x.log.length ≤ (bestP (ownBal (voteS c t m)) (voteS c t m).ballots).log.length := by
   intro x hx
   unfold allB at hx
   rcases List.mem_append.1 hx with hx | hx
   ·have := hbest.ge x (List.mem_append.2 (.inr ((hmem x).2 (.inr hx))))
    unfold geB at this
    omega
   ·simp only [List.mem_cons, List.not_mem_nil, or_false] at hx
    rcases hx with rfl | rfl
    ·have := hbest.ge (ownBal (voteS c t m)) (by simp)
     unfold geB at this
     rw [o1, o2] at this
     simp only
     omega
    ·have := hbest.ge (balOf t m) (List.mem_append.2 (.inr hvin))
     unfold geB at this
     simp only [balOf] at this
     simp only
     omega
  refine ⟨key_max hex hge ?_, hex⟩
  have := hbest.ge (ownBal (voteS c t m)) (by simp)
  unfold geB at this
  rw [o1] at this
  omega
 generalize bestP (ownBal (voteS c t m)) (voteS c t m).ballots = B at *
 generalize chosen (ownBal (voteS c t m)) (voteS c t m).ballots = C at *
 generalize mostP (ownBal (voteS c t m)) (voteS c t m).ballots = M at *
 obtain ⟨hk, x, hx, x1, x2⟩ := hk
 have hmc : m.commit ≤ M := hmc
 refine ⟨?_, ?_, hxv, hxl, ?_, ?_, ?_, ?_, ?_, ?_⟩
 ·unfold stale at hns; omega
 ·rw [← b6, ← hp, fv]
 ·rw [hk, hXl]
 ·rw [hk, hXl]; exact ⟨x, hx, x1, x2⟩
 ·rw [hXl, hXc]; omega
 ·rw [hXl, hXc]; omega
 ·intro y hy hy8
  rcases List.mem_append.1 hy with hy | hy
  ·rw [firstL_kind y hy] at hy8; cases hy8
  ·rcases List.mem_append.1 hy with hy | hy
   ·obtain ⟨_, i, _, _, rfl⟩ := allR_mem hy
    refine ⟨by rw [hXl]; rfl, ?_⟩
    rw [hXc]
    exact Int.le_max_right _ _
   ·rw [carryL_kind y hy] at hy8; cases hy8
 ·rw [cnt_app, cnt_app]
  have n1 : cnt 8 (firstL c t m) = 0 := cnt_zero fun x hx => by rw [firstL_kind x hx]; decide
  have n2 : cnt 8 (carryL c (ledS0 (voteS c t m) B.log) C) = 0 := cnt_zero fun x hx => by rw [carryL_kind x hx]; decide
  have n3 : cnt 8 (allR c (ledS0 (voteS c t m) B.log) (svM (voteS c t m) B.log C)) = (allR c (ledS0 (voteS c t m) B.log) (svM (voteS c t m) B.log C)).length := by
   unfold cnt
   rw [List.countP_eq_length]
   intro x hx
   rw [allR_kind x hx]
   rfl
  rw [n1, n2, n3]
  have := allR_len (m := svM (voteS c t m) B.log C) hld
  omega
theorem choice_call {c : Cfg} {s : State} {m : Msg} (hE : kErr c s m 7 = 0) :
  ((callS 7 c s m).status = 1 ∧ (s.status = 2 ∨ s.view < (callS 7 c s m).view) → Chosen c s m (callS 7 c s m) (callL 7 c s m)) ∧
  (¬ ((callS 7 c s m).status = 1 ∧ (s.status = 2 ∨ s.view < (callS 7 c s m).view)) → (callS 7 c s m).status ≠ 1 ∨ s.status = 1 ∧ s.view = (callS 7 c s m).view ∧ callL 7 c s m = []) := by
 obtain ⟨he, hkd, hme⟩ := kErr_zero hE
 have hok := admS_ok he hme
 obtain ⟨b1, b2, b3, b4, b5⟩ := adm_head he hme
 have hst := status_of he
 have key : ((callS 7 c s m).status = 1 ∧ (s.status = 2 ∨ s.view < (callS 7 c s m).view) ∧ Chosen c s m (callS 7 c s m) (callL 7 c s m)) ∨ (callS 7 c s m).status ≠ 1 ∨ s.status = 1 ∧ s.view = (callS 7 c s m).view ∧ callL 7 c s m = [] := by
  unfold callS callL
  simp only [hE, ne_eq, not_true_eq_false, if_false]
  cases hB : admB c s m
  ·simp only [if_true]
   rw [b1, b2]
   by_cases h1 : s.status = 1
   ·exact .inr (.inr (by simp [h1]))
   ·exact .inr (.inl h1)
  ·simp only [Bool.true_eq_false, if_false]
   have hne : m.node ≠ (admS c s m).self := by rw [admS_self he hme]; exact admB_node hB (between_kind hkd (by omega))
   by_cases hstl : (admS c s m).status = 3 ∨ stale (admS c s m) m
   ·unfold stepS stepL
    rw [if_pos hstl, if_pos hstl, b1, b2]
    by_cases h1 : s.status = 1
    ·exact .inr (.inr ⟨h1, rfl, rfl⟩)
    ·exact .inr (.inl h1)
   ·have g : Goes c (admS c s m) m := ⟨hok, hme, fun h => hstl (.inl h), fun h => hstl (.inr h)⟩
    have eS : stepS 7 c (admS c s m) m = votedS c (admS c s m) m := by unfold stepS; rw [if_neg hstl, if_neg (show ¬ (7 : Int) = 6 by decide), if_pos rfl]
    have eL : stepL 7 c (admS c s m) m = votedL c (admS c s m) m := by unfold stepL; rw [if_neg hstl, if_neg (show ¬ (7 : Int) = 6 by decide), if_pos rfl]
    rw [eS, eL]
    by_cases hp : primaryOf c (firstS2 c (admS c s m) m).view = (admS c s m).self
    ·by_cases hf : c.f ≤ (voteS c (admS c s m) m).ballots.length
     ·have eV : votedS c (admS c s m) m = leadS c (voteS c (admS c s m) m) := by unfold votedS; rw [if_neg (not_not_intro hp), if_pos hf]
      rw [eV]
      have ch := choice_led he hkd g hp hf hne
      refine .inl ⟨by rw [leadS_eq g hkd]; rfl, ?_, ch⟩
      rw [ch.xview]
      have hns := g.ns
      unfold stale at hns
      rw [b1, b2] at hns
      have := g.st
      rw [b2] at this
      omega
     ·have eV : votedS c (admS c s m) m = voteS c (admS c s m) m := by unfold votedS; rw [if_neg (not_not_intro hp), if_neg hf]
      rw [eV]
      have := g.status
      exact .inr (.inl (by rw [show (voteS c (admS c s m) m).status = (firstS2 c (admS c s m) m).status from rfl]; omega))
    ·have eV : votedS c (admS c s m) m = firstS2 c (admS c s m) m := by unfold votedS; rw [if_pos hp]
     rw [eV]
     have := g.status
     exact .inr (.inl (by omega))
 constructor
 ·intro h
  rcases key with k | k | k
  ·exact k.2.2
  ·exact absurd h.1 k
  ·exfalso; omega
 ·intro h
  rcases key with k | k
  ·exact absurd ⟨k.1, k.2.1⟩ h
  ·exact k
end Go.Ax
namespace Go.Ax
set_option linter.all false
set_option maxRecDepth 10000
set_option linter.unusedSimpArgs false
set_option maxHeartbeats 4000000
theorem v_2_0 : ub 2 0 = true := by decide
theorem v_2_1 : ub 2 1 = true := by decide
theorem v_2_2 : ub 2 2 = false := by decide
theorem v_2_3 : ub 2 3 = true := by decide
theorem v_2_4 : ub 2 4 = false := by decide
theorem v_2_5 : ub 2 5 = false := by decide
theorem v_2_6 : ub 2 6 = true := by decide
theorem v_2_7 : ub 2 7 = true := by decide
theorem v_2_8 : ub 2 8 = false := by decide
theorem v_2_9 : ub 2 9 = false := by decide
theorem v_4_0 : ub 4 0 = true := by decide
theorem v_4_1 : ub 4 1 = true := by decide
theorem v_4_2 : ub 4 2 = false := by decide
theorem v_4_3 : ub 4 3 = true := by decide
theorem v_4_4 : ub 4 4 = false := by decide
theorem v_4_5 : ub 4 5 = false := by decide
theorem v_4_6 : ub 4 6 = false := by decide
theorem v_4_7 : ub 4 7 = false := by decide
theorem v_4_8 : ub 4 8 = false := by decide
theorem v_4_9 : ub 4 9 = true := by decide
theorem v_6_0 : ub 6 0 = true := by decide
theorem v_6_1 : ub 6 1 = true := by decide
theorem v_6_2 : ub 6 2 = false := by decide
theorem v_6_3 : ub 6 3 = false := by decide
theorem v_6_4 : ub 6 4 = false := by decide
theorem v_6_5 : ub 6 5 = false := by decide
theorem v_6_6 : ub 6 6 = false := by decide
theorem v_6_7 : ub 6 7 = false := by decide
theorem v_6_8 : ub 6 8 = false := by decide
theorem v_6_9 : ub 6 9 = true := by decide
theorem v_7_0 : ub 7 0 = true := by decide
theorem v_7_1 : ub 7 1 = true := by decide
theorem v_7_2 : ub 7 2 = true := by decide
theorem v_7_3 : ub 7 3 = false := by decide
theorem v_7_4 : ub 7 4 = true := by decide
theorem v_7_5 : ub 7 5 = false := by decide
theorem v_7_6 : ub 7 6 = false := by decide
theorem v_7_7 : ub 7 7 = false := by decide
theorem v_7_8 : ub 7 8 = true := by decide
theorem v_7_9 : ub 7 9 = true := by decide
theorem v_8_0 : ub 8 0 = true := by decide
theorem v_8_1 : ub 8 1 = true := by decide
theorem v_8_2 : ub 8 2 = false := by decide
theorem v_8_3 : ub 8 3 = false := by decide
theorem v_8_4 : ub 8 4 = true := by decide
theorem v_8_5 : ub 8 5 = false := by decide
theorem v_8_6 : ub 8 6 = false := by decide
theorem v_8_7 : ub 8 7 = false := by decide
theorem v_8_8 : ub 8 8 = true := by decide
theorem v_8_9 : ub 8 9 = true := by decide
theorem msgErr_of {c : Cfg} {m : Msg} (hc : cfgOk c) (hk : 1 ≤ m.kind ∧ m.kind ≤ 14) (hu : unusedOk m = true) (hn : numsOk c m = true) (hr : restOk c m = true) : msgErr c m = 0 := by
 unfold msgErr msgOk
 rw [if_pos hc, if_pos hk]
 simp [hu, hn, hr]
theorem NN_of {c : Cfg} (h : cfgOk c) : nodesOf c = NN c := by unfold nodesOf; rw [if_pos h]
structure Head (c : Cfg) (X : State) : Prop where
 cfg : cfgOk c
 self : 0 ≤ X.self ∧ X.self < NN c
 view : 1 ≤ X.view ∧ X.view ≤ 4294967296
 last : 0 ≤ X.last
 vec : (X.vector.length : Int) = NN c
 log : logErr X.log c.room = 0 ∧ 0 ≤ X.commit ∧ X.commit ≤ X.log.length
theorem Head.of {c : Cfg} {X : State} (h : stateErr c X = 0) (hv : 1 ≤ X.view) : Head c X := by
 obtain ⟨hc, h1, h2, h3, h4⟩ := head_of h
 rw [NN_of hc] at h1 h3
 have hl : 0 ≤ X.last := by
  rw [stateErr_iff] at h
  obtain ⟨_, hh, _⟩ := h
  simp [headOff] at hh
  omega
 exact ⟨hc, h1, ⟨hv, h2.2⟩, hl, h3, (logOk_iff _ _ _).1 h4⟩
theorem room_of {c : Cfg} (h : cfgOk c) : 1 ≤ c.room := by unfold cfgOk at h; omega
theorem svc_msg {c : Cfg} {X : State} (h : Head c X) : msgErr c (stampM X (svcM X.view)) = 0 := by
 obtain ⟨hc, h1, h2, h3, h4, h5⟩ := h
 have hr := room_of hc
 refine msgErr_of hc (by simp [stampM, svcM]) ?_ ?_ ?_
 ·simp [unusedOk, pairs, pairsM, pU, stampM, svcM, zeroM, between, v_6_0, v_6_1, v_6_2, v_6_3, v_6_4, v_6_5, v_6_6, v_6_7, v_6_8, v_6_9]
 ·simp [numsOk, numsBase, numsTail, numsEnd, stampM, svcM, zeroM, between, v_6_0, v_6_1, v_6_2, v_6_3, v_6_4, v_6_5, v_6_6, v_6_7, v_6_8, v_6_9]
  omega
 ·simp [restOk, drawNot, lateLog, stampM, svcM, zeroM, between, v_6_0, v_6_1, v_6_2, v_6_3, v_6_4, v_6_5, v_6_6, v_6_7, v_6_8, v_6_9]
  exact h4
theorem dvc_msg {c : Cfg} {X : State} (h : Head c X) (hl : X.last < X.view) : msgErr c (stampM X (dvcM X)) = 0 := by
 obtain ⟨hc, h1, h2, h3, h4, h5⟩ := h
 have hr := room_of hc
 refine msgErr_of hc (by simp [stampM, dvcM]) ?_ ?_ ?_
 ·simp [unusedOk, pairs, pairsM, pU, stampM, dvcM, zeroM, between, v_7_0, v_7_1, v_7_2, v_7_3, v_7_4, v_7_5, v_7_6, v_7_7, v_7_8, v_7_9]
 ·simp [numsOk, numsBase, numsTail, numsEnd, stampM, dvcM, zeroM, between, v_7_0, v_7_1, v_7_2, v_7_3, v_7_4, v_7_5, v_7_6, v_7_7, v_7_8, v_7_9]
  omega
 ·simp [restOk, drawNot, lateLog, stampM, dvcM, zeroM, between, v_7_0, v_7_1, v_7_2, v_7_3, v_7_4, v_7_5, v_7_6, v_7_7, v_7_8, v_7_9, h5.1]
  exact h4
theorem sv_msg {c : Cfg} {X u : State} {log : List Ent} {k : Int} (h : Head c X) (hu : u.view = X.view) (hl : logErr log c.room = 0 ∧ 0 ≤ k ∧ k ≤ log.length) (hp : X.self = X.view.tmod (NN c)) : msgErr c (stampM X (svM u log k)) = 0 := by
 obtain ⟨hc, h1, h2, h3, h4, h5⟩ := h
 have hr := room_of hc
 refine msgErr_of hc (by simp [stampM, svM]) ?_ ?_ ?_
 ·simp [unusedOk, pairs, pairsM, pU, stampM, svM, zeroM, between, v_8_0, v_8_1, v_8_2, v_8_3, v_8_4, v_8_5, v_8_6, v_8_7, v_8_8, v_8_9]
 ·simp [numsOk, numsBase, numsTail, numsEnd, stampM, svM, zeroM, between, hu, ← hp, v_8_0, v_8_1, v_8_2, v_8_3, v_8_4, v_8_5, v_8_6, v_8_7, v_8_8, v_8_9]
  omega
 ·simp [restOk, drawNot, lateLog, stampM, svM, zeroM, between, v_8_0, v_8_1, v_8_2, v_8_3, v_8_4, v_8_5, v_8_6, v_8_7, v_8_8, v_8_9, hl.1]
  exact h4
theorem logErr_room {c : Cfg} {l : List Ent} (h : logErr l c.room = 0) : (l.length : Int) ≤ c.room := by
 unfold logErr at h
 split at h
 ·cases h
 ·split at h
  ·cases h
  ·omega
theorem pok_msg {c : Cfg} {X : State} (h : Head c X) : msgErr c (stampM X (pokM X.view X.log)) = 0 := by
 obtain ⟨hc, h1, h2, h3, h4, h5⟩ := h
 have hr := room_of hc
 have hlr := logErr_room h5.1
 refine msgErr_of hc (by simp [stampM, pokM]) ?_ ?_ ?_
 ·simp [unusedOk, pairs, pairsM, pU, stampM, pokM, zeroM, between, v_4_0, v_4_1, v_4_2, v_4_3, v_4_4, v_4_5, v_4_6, v_4_7, v_4_8, v_4_9]
 ·simp [numsOk, numsBase, numsTail, numsEnd, stampM, pokM, zeroM, between, v_4_0, v_4_1, v_4_2, v_4_3, v_4_4, v_4_5, v_4_6, v_4_7, v_4_8, v_4_9]
  omega
 ·simp [restOk, drawNot, lateLog, stampM, pokM, zeroM, between, v_4_0, v_4_1, v_4_2, v_4_3, v_4_4, v_4_5, v_4_6, v_4_7, v_4_8, v_4_9]
  exact h4
structure LedV (a : Led) : Prop where
 nx : 0 ≤ a.nx ∧ a.nx ≤ 1024
 len : a.L.length ≤ 1024
 ent : ∀ x ∈ a.L, 0 ≤ x.1 ∧ x.1 < 1024 ∧ (x.2.size : Int) ≤ 64
theorem lookL_mem : ∀ {L : List (Int × ByteArray)} {k : Int} {v : ByteArray}, lookL L k = some v → (k, v) ∈ L
 | [], k, v, h => by cases h
 | (a, b) :: r, k, v, h => by
  simp only [lookL] at h
  split at h
  ·rename_i e
   injection h with h
   subst e h
   simp
  ·exact List.mem_cons_of_mem _ (lookL_mem h)
theorem mcount_le : ∀ (l : List (Int × Dat)), mcount l ≤ l.length
 | [] => by simp [mcount]
 | x :: r => by
  have := mcount_le r
  simp only [mcount, List.length_cons]
  split <;> omega
theorem op_value {o : LOp} (h : opErr o = 0) : (o.kind = 1 ∨ o.kind = 2) → (o.value.size : Int) ≤ 64 := by
 intro hk
 unfold opErr at h
 split at h
 ·split at h
  ·cases h
  ·split at h
   ·cases h
   ·omega
 ·split at h
  ·split at h
   ·cases h
   ·split at h
    ·cases h
    ·omega
  ·cases h
theorem would_ok {L : List (Int × ByteArray)} {nx : Int} {o : LOp} (hv : LedV ⟨[], L, nx⟩) (h : opErr o = 0) : answersOk (wouldR L nx o) = true ∧ (wouldR L nx o).code ≠ 7 ∧ ((wouldR L nx o).code = 1 → 0 ≤ (wouldR L nx o).slot ∧ (wouldR L nx o).slot < 1024 ∧ ((wouldR L nx o).value.size : Int) ≤ 64) := by
 obtain ⟨h1, h2, h3⟩ := hv
 simp only at h1 h2 h3
 have hval := op_value h
 rcases op_cases h with ⟨k, s1, s2⟩ | ⟨k, s1⟩ | ⟨k, s1, s2⟩ | ⟨k, s1⟩
 ·have hv1 := hval (.inl k)
  cases hl : lookL L o.slot with
  | none =>
   have hw : wouldR L nx o = ⟨1, o.slot, o.value⟩ := by unfold wouldR; rw [if_pos k, hl]
   rw [hw]; simp [answersOk]; omega
  | some v =>
   have hw : wouldR L nx o = ⟨2, o.slot, v⟩ := by unfold wouldR; rw [if_pos k, hl]
   have := h3 _ (lookL_mem hl)
   rw [hw]; simp at this; simp [answersOk]; omega
 ·have hv1 := hval (.inr k)
  by_cases q : nx = 1024
  ·have hw : wouldR L nx o = ⟨3, 0, ByteArray.empty⟩ := by unfold wouldR; rw [if_neg (show ¬ o.kind = 1 by omega), if_pos k, if_pos q]
   rw [hw]; simp [answersOk]
  ·have hw : wouldR L nx o = ⟨1, nx, o.value⟩ := by unfold wouldR; rw [if_neg (show ¬ o.kind = 1 by omega), if_pos k, if_neg q]
   rw [hw]; simp [answersOk]; omega
 ·cases hl : lookL L o.slot with
  | none =>
   have hw : wouldR L nx o = ⟨5, o.slot, ByteArray.empty⟩ := by unfold wouldR; rw [if_neg (show ¬ o.kind = 1 by omega), if_neg (show ¬ o.kind = 2 by omega), if_pos k, hl]
   rw [hw]; simp [answersOk]; omega
  | some v =>
   have hw : wouldR L nx o = ⟨4, o.slot, v⟩ := by unfold wouldR; rw [if_neg (show ¬ o.kind = 1 by omega), if_neg (show ¬ o.kind = 2 by omega), if_pos k, hl]
   have := h3 _ (lookL_mem hl)
   rw [hw]; simp at this; simp [answersOk]; omega
 ·have hw : wouldR L nx o = ⟨6, countL L, ByteArray.empty⟩ := by unfold wouldR; rw [if_neg (show ¬ o.kind = 1 by omega), if_neg (show ¬ o.kind = 2 by omega), if_neg (show ¬ o.kind = 3 by omega)]
  have : countL L ≤ 1024 := by
   have := mcount_le (encLd L)
   unfold countL
   simp at this
   omega
  rw [hw]; simp [answersOk]; omega
def rowOk (r : Row) : Prop := 0 ≤ r.client ∧ r.client < 16 ∧ 1 ≤ r.number ∧ answersOk r.result = true ∧ r.result.code ≠ 7
theorem LedV.step {a : Led} {e : Ent} (h : LedV a) (hl : a.L.length < 1024) (he : opErr e.op = 0) : LedV (stepR a e) := by
 obtain ⟨h1, h2, h3⟩ := h
 obtain ⟨w1, w2, w3⟩ := would_ok (L := a.L) (nx := a.nx) ⟨h1, h2, h3⟩ he
 refine ⟨?_, ?_, ?_⟩
 ·simp only [stepR, doN]
  split
  ·rename_i hc; have := w3 hc; omega
  ·exact h1
 ·simp only [stepR, doL]
  split
  ·simp only [List.length_cons]; omega
  ·exact h2
 ·simp only [stepR, doL]
  split
  ·rename_i hc
   intro x hx
   rcases List.mem_cons.1 hx with rfl | hx
   ·exact w3 hc
   ·exact h3 x hx
  ·exact h3
theorem rows_ok : ∀ (p : List Ent) (a : Led), LedV a → a.L.length + p.length ≤ 1024 → (∀ r ∈ a.rows, rowOk r) → (∀ e ∈ p, 0 ≤ e.client ∧ e.client < 16 ∧ 1 ≤ e.number ∧ opErr e.op = 0) → ∀ r ∈ (p.foldl stepR a).rows, rowOk r
 | [], a, _, _, hr, _ => hr
 | e :: p, a, hv, hl, hr, hp => by
  obtain ⟨e1, e2, e3, e4⟩ := hp e (by simp)
  simp only [List.length_cons] at hl
  have hLl : (stepR a e).L.length ≤ a.L.length + 1 := by
   simp only [stepR, doL]
   split
   ·simp
   ·omega
  refine rows_ok p (stepR a e) (hv.step (by omega) e4) (by omega) (fun r h => ?_) (fun x hx => hp x (by simp [hx]))
  simp only [stepR] at h
  rcases List.mem_append.1 h with h | h
  ·exact hr r h
  ·rw [List.mem_singleton.1 h]
   obtain ⟨w1, w2, _⟩ := would_ok (L := a.L) (nx := a.nx) ⟨hv.nx, hv.len, hv.ent⟩ e4
   exact ⟨e1, e2, e3, w1, w2⟩
theorem carryR_ok {s : State} {to : Int} (hl : s.log.length ≤ 256) (h : logErr1 [] s.log = 0) (h0 : 0 ≤ to ∧ to ≤ s.log.length) : ∀ x ∈ carryR s to, rowOk x ∧ 1 ≤ x.place ∧ x.place ≤ s.log.length := by
 have hqr : s.log.take to.toNat ++ s.log.drop to.toNat = s.log := List.take_append_drop _ _
 rw [← hqr] at h
 have ho := (ledS_ok _ _ [] h).rows
 intro x hx
 have hx' : x ∈ (ledS (s.log.take to.toNat)).rows := List.mem_of_mem_drop hx
 refine ⟨rows_ok (s.log.take to.toNat) ⟨[], [], 0⟩ ⟨by simp, by simp, by simp⟩ (by simp; omega) (by simp) (fun e he => ?_) x hx', ?_⟩
 ·obtain ⟨A, B, hAB⟩ := List.append_of_mem he
  rw [hAB] at h
  have := ent_ok (entErr_of_log A (B ++ s.log.drop to.toNat) [] e (by simpa using h))
  exact ⟨this.1, this.2.1, this.2.2.1, this.2.2.2.1⟩
 ·obtain ⟨X, Y, hXY⟩ := List.append_of_mem hx'
  obtain ⟨A, e, B, a1, a2, a3⟩ := rows_split (s.log.take to.toNat) ⟨[], [], 0⟩ X Y x hXY (Nat.zero_le _)
  have hlen := congrArg List.length hXY
  rw [ho] at hlen
  simp at hlen
  rw [a3]
  simp only
  omega
theorem reply_msg {c : Cfg} {X : State} {r : Row} (h : Head c X) (hr : rowOk r) (hp : 1 ≤ r.place ∧ r.place ≤ c.room) : msgErr c (replyOf X r).msg = 0 := by
 obtain ⟨hc, h1, h2, h3, h4, h5⟩ := h
 obtain ⟨r1, r2, r3, r4, r5⟩ := hr
 show msgErr c ⟨2, X.self, X.view, ⟨r.client, r.number, ⟨0, 0, ByteArray.empty⟩⟩, r.result, r.place, 0, 0, ⟨0, 0⟩, [], []⟩ = 0
 refine msgErr_of hc (by simp) ?_ ?_ ?_
 ·simp [unusedOk, pairs, pairsM, pU, replyOf, zeroM, between, v_2_0, v_2_1, v_2_2, v_2_3, v_2_4, v_2_5, v_2_6, v_2_7, v_2_8, v_2_9]
 ·simp [numsOk, numsBase, numsTail, numsEnd, replyOf, zeroM, between, v_2_0, v_2_1, v_2_2, v_2_3, v_2_4, v_2_5, v_2_6, v_2_7, v_2_8, v_2_9]
  omega
 ·have h7 : decide (r.place = 0) = decide (r.result.code = 7) := by rw [decide_eq_false (by omega), decide_eq_false r5]
  have ha : asksOk 2 ⟨r.client, r.number, ⟨0, 0, ByteArray.empty⟩⟩ = true := by
   unfold asksOk
   rw [if_neg (by simp only; omega), if_pos (by omega)]
   simp
  simp [restOk, drawNot, lateLog, replyOf, zeroM, between, readsOk, v_2_0, v_2_1, v_2_2, v_2_3, v_2_4, v_2_5, v_2_6, v_2_7, v_2_8, v_2_9, r4, ha]
  exact ⟨fun h => by omega, fun h => absurd h r5⟩
structure RightM (c : Cfg) (X : State) (x : Send) : Prop where
 err : msgErr c x.msg = 0
 node : x.msg.node = X.self
 view : x.msg.view = X.view
 ne : x.to ≠ X.self
 rep : x.msg.kind = 2 → x.to = 7 + x.msg.entry.client
 oth : x.msg.kind ≠ 2 → 0 ≤ x.to ∧ x.to < nodesOf c ∧ x.msg.vector = X.vector
theorem right_out {c : Cfg} {X u : State} {m : Msg} {i : Int} (hu : u.self = X.self ∧ u.vector = X.vector) (hv : m.view = X.view) (hk : 3 ≤ m.kind ∧ m.kind ≤ 12) (h : msgErr c (stampM X m) = 0) (hi : 0 ≤ i ∧ i < nodesOf c) (hn : i ≠ X.self) : RightM c X (outM u i m) := by
 have hb : between m.kind = true := between_kind rfl hk
 have e : stampM u m = stampM X m := by unfold stampM; rw [hu.1, hu.2]
 refine ⟨by rw [show (outM u i m).msg = stampM u m from rfl, e]; exact h, hu.1, hv, hn, fun h2 => ?_, fun _ => ⟨hi.1, hi.2, ?_⟩⟩
 ·have : m.kind = 2 := h2
  omega
 ·show (if between m.kind then u.vector else m.vector) = _
  rw [hb]; exact hu.2
end Go.Ax
namespace Go.Ax
set_option linter.all false
set_option maxRecDepth 10000
set_option linter.unusedSimpArgs false
set_option maxHeartbeats 4000000
theorem RightM.congr {c : Cfg} {X Y : State} {x : Send} (h : RightM c X x) (h1 : X.self = Y.self) (h2 : X.view = Y.view) (h3 : X.vector = Y.vector) : RightM c Y x :=
 ⟨h.err, by rw [← h1]; exact h.node, by rw [← h2]; exact h.view, by rw [← h1]; exact h.ne, h.rep, by rw [← h3]; exact h.oth⟩
theorem right_go {c : Cfg} {s : State} {v : Int} (h : stateErr c (goS s v) = 0) (hv : 1 ≤ v) : ∀ x ∈ goL c s v, RightM c (goS s v) x := by
 intro x hx
 obtain ⟨_, i, h1, h2, rfl⟩ := allR_mem hx
 exact right_out ⟨rfl, rfl⟩ rfl (show (3 : Int) ≤ 6 ∧ (6 : Int) ≤ 12 by decide) (svc_msg (Head.of h hv)) ⟨by omega, h1⟩ h2
theorem right_first {c : Cfg} {t : State} {m : Msg} (g : Goes c t m) : ∀ x ∈ firstL c t m, RightM c (firstS2 c t m) x := by
 intro x hx
 have h := g.first
 obtain ⟨_, _, v, _⟩ := head_of g.ok
 unfold firstL at hx
 unfold firstS2 at h ⊢
 split at hx
 ·rename_i hv
  rw [if_pos hv] at h ⊢
  exact right_go h (by omega) x hx
 ·cases hx
theorem primary_in {c : Cfg} {v : Int} (hc : cfgOk c) (hv : 0 ≤ v ∧ v ≤ 4294967296) : 0 ≤ primaryOf c v ∧ primaryOf c v < nodesOf c ∧ primaryOf c v = v.tmod (NN c) := by
 have hc' := hc
 unfold cfgOk at hc'
 unfold primaryOf nodesOf
 rw [if_pos ⟨hc, hv⟩, if_pos hc]
 refine ⟨Int.tmod_nonneg _ hv.1, Int.tmod_lt_of_pos _ (by omega), rfl⟩
theorem one_ok {c : Cfg} {X : State} {to : Int} {m : Msg} (h : stateErr c X = 0) (ht : 0 ≤ to ∧ to < nodesOf c ∧ to ≠ X.self) : oneS c X to m = outM X to m := by
 unfold oneS
 have : oneErr c X to = 0 := by
  unfold oneErr
  rw [if_neg (by simp [h])]
  have : toOk c X to = true := by simp [toOk, ht.1, ht.2.1, ht.2.2]
  rw [this]
  rfl
 rw [if_neg (by simp [this])]
theorem right_ball {c : Cfg} {X : State} (h : stateErr c X = 0) (hs : X.status = 2) : ∀ x ∈ ballL c X, RightM c X x := by
 intro x hx
 have hl := (changing_of h hs).1
 obtain ⟨hc, _, hv, _⟩ := head_of h
 have hp := primary_in hc hv
 have hlast : 0 ≤ X.last := by
  have h' := h
  rw [stateErr_iff] at h'
  obtain ⟨_, hh, _⟩ := h'
  simp [headOff] at hh
  omega
 unfold ballL at hx
 split at hx
 ·cases hx
 ·rename_i hne
  rw [List.mem_singleton.1 hx, one_ok h ⟨hp.1, hp.2.1, hne⟩]
  exact right_out ⟨rfl, rfl⟩ rfl (show (3 : Int) ≤ 7 ∧ (7 : Int) ≤ 12 by decide) (dvc_msg (Head.of h (by omega)) hl) ⟨hp.1, hp.2.1⟩ hne
theorem right_start {c : Cfg} {t : State} {m : Msg} (g : Goes c t m) (hne : m.node ≠ t.self) : ∀ x ∈ startL c t m, RightM c (startS c t m) x := by
 intro x hx
 unfold startL at hx
 rcases List.mem_append.1 hx with hx | hx
 ·exact (right_first g x hx).congr rfl rfl rfl
 ·split at hx
  ·exact right_ball (start_ok g hne) g.status x hx
  ·cases hx
theorem right_lead {c : Cfg} {t : State} {m : Msg} (g : Goes c t m) (hk : m.kind = 7) (hp : primaryOf c (firstS2 c t m).view = t.self) : ∀ x ∈ leadL c (voteS c t m), RightM c (leadS c (voteS c t m)) x := by
 intro x hx
 have hld := led_ok g hk
 have hch := chosen_in (ownBal (voteS c t m)) (voteS c t m).ballots
 have hbl := best_ok g hk
 have fv := g.view
 obtain ⟨_, _, _, lv⟩ := msg_log g.me (.inl hk)
 obtain ⟨hc, h1, hv, h4, h5⟩ := head_of hld
 rw [leadS_eq g hk]
 have hself : (ledS0 (voteS c t m) (bestP (ownBal (voteS c t m)) (voteS c t m).ballots).log).self = t.self := first_self
 have hview : (ledS0 (voteS c t m) (bestP (ownBal (voteS c t m)) (voteS c t m).ballots).log).view = m.view := fv
 have hH := Head.of hld (by rw [hview]; exact lv)
 have hpp : (ledS0 (voteS c t m) (bestP (ownBal (voteS c t m)) (voteS c t m).ballots).log).self = (ledS0 (voteS c t m) (bestP (ownBal (voteS c t m)) (voteS c t m).ballots).log).view.tmod (NN c) := by
  rw [hself, ← hp, hview, fv]
  rw [hview] at hv
  exact (primary_in hc hv).2.2
 have cg : RightM c (ledS0 (voteS c t m) (bestP (ownBal (voteS c t m)) (voteS c t m).ballots).log) x → RightM c (ledT c (voteS c t m)) x := fun h => h.congr rfl rfl rfl
 refine cg ?_
 unfold leadL at hx
 rcases List.mem_append.1 hx with hx | hx
 ·obtain ⟨_, i, i1, i2, rfl⟩ := allR_mem hx
  exact right_out ⟨rfl, rfl⟩ rfl (show (3 : Int) ≤ 8 ∧ (8 : Int) ≤ 12 by decide) (sv_msg hH rfl ⟨hbl, hch⟩ hpp) ⟨by omega, i1⟩ i2
 ·have hce := carryErr_led g hk
  obtain ⟨f1, f2, f3, f4⟩ := log_facts hld
  have hroom := logErr_room hH.log.1
  generalize ledS0 (voteS c t m) (bestP (ownBal (voteS c t m)) (voteS c t m).ballots).log = Y at *
  generalize chosen (ownBal (voteS c t m)) (voteS c t m).ballots = C at *
  have hto : 0 ≤ C ∧ C ≤ Y.log.length := by
   unfold carryErr at hce
   rw [if_neg (by simp [hld])] at hce
   by_cases hq : C < 0 ∨ (Y.log.length : Int) < C
   ·rw [if_pos hq] at hce; cases hce
   ·omega
  unfold carryL at hx
  rw [if_neg (by simp [hce])] at hx
  split at hx
  ·cases hx
  ·split at hx
   ·split at hx
    ·obtain ⟨r, hr, rfl⟩ := List.mem_map.1 hx
     obtain ⟨r1, r2, r3⟩ := carryR_ok f1 f2 hto r hr
     have hn7 : nodesOf c ≤ 7 := by unfold nodesOf; rw [if_pos hc]; unfold cfgOk at hc; omega
     have hcl := r1.1
     refine ⟨reply_msg hH r1 ⟨r2, by omega⟩, rfl, rfl, ?_, fun _ => rfl, fun h => absurd rfl h⟩
     show 7 + r.client ≠ Y.self
     omega
    ·cases hx
   ·cases hx
theorem right_voted {c : Cfg} {t : State} {m : Msg} (g : Goes c t m) (hk : m.kind = 7) : ∀ x ∈ votedL c t m, RightM c (votedS c t m) x := by
 intro x hx
 unfold votedL at hx
 unfold votedS
 by_cases hp : primaryOf c (firstS2 c t m).view = t.self
 ·rw [if_neg (not_not_intro hp)] at hx ⊢
  by_cases hf : c.f ≤ (voteS c t m).ballots.length
  ·rw [if_pos hf] at hx ⊢
   rcases List.mem_append.1 hx with hx | hx
   ·rw [leadS_eq g hk]
    exact (right_first g x hx).congr rfl rfl rfl
   ·exact right_lead g hk hp x hx
  ·rw [if_neg hf] at hx ⊢
   rw [List.append_nil] at hx
   exact (right_first g x hx).congr rfl rfl rfl
 ·rw [if_pos hp] at hx ⊢
  rw [List.append_nil] at hx
  exact right_first g x hx
theorem right_inst {c : Cfg} {t : State} {m : Msg} (g : Goes c t m) (hk : m.kind = 8) (hne : m.node ≠ t.self) : ∀ x ∈ instL c t m, RightM c (instS t m) x := by
 intro x hx
 have hi := inst_ok g hk
 obtain ⟨hc, g1, g2, _⟩ := msg_nums g.me
 rw [← NN_of hc] at g2
 obtain ⟨_, _, _, lv⟩ := msg_log g.me (.inr hk)
 unfold instL at hx
 split at hx
 ·rw [List.mem_singleton.1 hx, one_ok hi ⟨g1, g2, hne⟩]
  exact right_out ⟨rfl, rfl⟩ rfl (show (3 : Int) ≤ 4 ∧ (4 : Int) ≤ 12 by decide) (pok_msg (Head.of hi lv)) ⟨g1, g2⟩ hne
 ·cases hx
structure StandOk (c : Cfg) (s X : State) (L : List Send) : Prop where
 ok : stateErr c X = 0
 right : ∀ x ∈ L, RightM c X x
 view : s.view ≤ X.view
 last : s.last ≤ X.last
 vec : X.vector = s.vector ∨ (s.vector.length = X.vector.length ∧ ∃ v, X.vector = mxv s.vector v)
 up : s.last < X.last → X.status = 1
 chg : X.status = 2 → X.last = s.last ∧ X.commit = s.commit ∧ X.log = s.log
 quiet : X.status = 3 → L = []
theorem stand_call {k : Int} (hk : k = 6 ∨ k = 7 ∨ k = 8) {c : Cfg} {s : State} {m : Msg} (hE : kErr c s m k = 0) : StandOk c s (callS k c s m) (callL k c s m) := by
 obtain ⟨he, hkd, hme⟩ := kErr_zero hE
 have hok := admS_ok he hme
 obtain ⟨b1, b2, b3, b4, b5⟩ := adm_head he hme
 have hlv : s.last ≤ s.view := by
  have h' := he
  rw [stateErr_iff] at h'
  obtain ⟨_, hh, _⟩ := h'
  simp [headOff] at hh
  omega
 have hvec : (admS c s m).vector = s.vector ∨ (s.vector.length = (admS c s m).vector.length ∧ ∃ v, (admS c s m).vector = mxv s.vector v) := by
  have hl := (adm_short he hme).1
  rcases admS_cases he hme with ⟨e, _⟩ | ⟨e, _⟩
  ·rw [e]; exact .inl rfl
  ·exact .inr ⟨hl.symm, m.vector, by rw [e]; rfl⟩
 have hS : callS k c s m = if admB c s m = false then admS c s m else stepS k c (admS c s m) m := by unfold callS; simp only [hE, ne_eq, not_true_eq_false, if_false]
 have hL : callL k c s m = if admB c s m = false then [] else stepL k c (admS c s m) m := by unfold callL; simp only [hE, ne_eq, not_true_eq_false, if_false]
 rw [hS, hL]
 have same : StandOk c s (admS c s m) [] := ⟨hok, fun x hx => (by cases hx), by omega, by omega, hvec, fun h => by omega, fun _ => ⟨b3, b5, b4⟩, fun _ => rfl⟩
 cases hB : admB c s m
 ·simp only [if_true]; exact same
 ·simp only [Bool.true_eq_false, if_false]
  have hne : m.node ≠ (admS c s m).self := by rw [admS_self he hme]; exact admB_node hB (between_kind hkd (by omega))
  generalize admS c s m = t at *
  by_cases hst : t.status = 3 ∨ stale t m
  ·have e1 : stepS k c t m = t := by unfold stepS; rw [if_pos hst]
   have e2 : stepL k c t m = [] := by unfold stepL; rw [if_pos hst]
   rw [e1, e2]; exact same
  ·have g : Goes c t m := ⟨hok, hme, fun h => hst (.inl h), fun h => hst (.inr h)⟩
   have f1 := first_same (c := c) (t := t) (m := m)
   have fv := g.view
   have fs := g.status
   have hns := g.ns
   unfold stale at hns
   have fvec : (firstS2 c t m).vector = s.vector ∨ (s.vector.length = (firstS2 c t m).vector.length ∧ ∃ v, (firstS2 c t m).vector = mxv s.vector v) := by rw [f1.2.2.2.2]; exact hvec
   obtain ⟨_, f2, f3, f4, f5⟩ := f1
   rcases hk with rfl | rfl | rfl
   ·have e1 : stepS 6 c t m = startS c t m := by unfold stepS; rw [if_neg hst, if_pos rfl]
    have e2 : stepL 6 c t m = startL c t m := by unfold stepL; rw [if_neg hst, if_pos rfl]
    rw [e1, e2]
    have hl : (startS c t m).last = s.last := by rw [← b3, ← f2]; rfl
    refine ⟨start_ok g hne, right_start g hne, ?_, by omega, fvec, fun h => by omega, fun _ => ⟨hl, by rw [← b5, ← f4]; rfl, by rw [← b4, ← f3]; rfl⟩, fun h => ?_⟩
    ·rw [show (startS c t m).view = (firstS2 c t m).view from rfl]; omega
    ·have : (firstS2 c t m).status = 3 := h
     omega
   ·have e1 : stepS 7 c t m = votedS c t m := by unfold stepS; rw [if_neg hst, if_neg (show ¬ (7 : Int) = 6 by decide), if_pos rfl]
    have e2 : stepL 7 c t m = votedL c t m := by unfold stepL; rw [if_neg hst, if_neg (show ¬ (7 : Int) = 6 by decide), if_pos rfl]
    rw [e1, e2]
    have hr := right_voted g hkd
    have ho := voted_ok g hkd hne
    unfold votedS at hr ho ⊢
    by_cases hp : primaryOf c (firstS2 c t m).view = t.self
    ·rw [if_neg (not_not_intro hp)] at hr ho ⊢
     by_cases hf : c.f ≤ (voteS c t m).ballots.length
     ·rw [if_pos hf] at hr ho ⊢
      rw [leadS_eq g hkd] at hr ho ⊢
      have v1 : (ledT c (voteS c t m)).view = m.view := fv
      have v2 : (ledT c (voteS c t m)).last = m.view := fv
      have v3 : (ledT c (voteS c t m)).status = 1 := rfl
      exact ⟨ho, hr, by omega, by omega, fvec, fun _ => v3, fun h => by omega, fun h => by omega⟩
     ·rw [if_neg hf] at hr ho ⊢
      have hl : (voteS c t m).last = s.last := by rw [← b3, ← f2]; rfl
      refine ⟨ho, hr, ?_, by omega, fvec, fun h => by omega, fun _ => ⟨hl, by rw [← b5, ← f4]; rfl, by rw [← b4, ← f3]; rfl⟩, fun h => ?_⟩
      ·rw [show (voteS c t m).view = (firstS2 c t m).view from rfl]; omega
      ·have : (firstS2 c t m).status = 3 := h
       omega
    ·rw [if_pos hp] at hr ho ⊢
     exact ⟨ho, hr, by omega, by omega, fvec, fun h => by omega, fun _ => ⟨by omega, by rw [f4, b5], by rw [f3, b4]⟩, fun h => by omega⟩
   ·have e1 : stepS 8 c t m = instS t m := by unfold stepS; rw [if_neg hst, if_neg (show ¬ (8 : Int) = 6 by decide), if_neg (show ¬ (8 : Int) = 7 by decide)]
    have e2 : stepL 8 c t m = instL c t m := by unfold stepL; rw [if_neg hst, if_neg (show ¬ (8 : Int) = 6 by decide), if_neg (show ¬ (8 : Int) = 7 by decide)]
    rw [e1, e2]
    have v1 : (instS t m).view = m.view := rfl
    have v2 : (instS t m).last = m.view := rfl
    have v3 : (instS t m).status = 1 := rfl
    exact ⟨inst_ok g hkd, right_inst g hkd hne, by omega, by omega, hvec, fun _ => v3, fun h => by omega, fun h => by omega⟩
theorem stand_sus {c : Cfg} {s : State} (hE : susErr c s = 0) : StandOk c s (susS c s) (susL c s) := by
 have he : stateErr c s = 0 := by
  unfold susErr at hE
  split at hE
  ·rename_i g; exact absurd hE g
  ·rename_i g; simpa using g
 have hw : waits c s := by
  unfold susErr at hE
  rw [if_neg (by simp [he])] at hE
  split at hE
  ·assumption
  ·cases hE
 have h3 : s.status ≠ 3 := fun h => hw (.inl h)
 have ho := sus_ok hE
 obtain ⟨_, _, hv, _⟩ := head_of he
 unfold susS susL at *
 simp only [hE, ne_eq, not_true_eq_false, if_false] at ho ⊢
 by_cases hq : s.view < 4294967296
 ·rw [if_pos hq] at ho ⊢
  rw [if_pos hq]
  exact ⟨ho, right_go ho (by omega), by simp only [goS]; omega, by simp only [goS]; omega, .inl rfl, fun h => by simp only [goS] at h; omega, fun _ => ⟨rfl, rfl, rfl⟩, fun h => by simp only [goS] at h; omega⟩
 ·rw [if_neg hq] at ho ⊢
  rw [if_neg hq]
  exact ⟨ho, fun x hx => (by cases hx), by omega, by omega, .inl rfl, fun h => by omega, fun _ => ⟨rfl, rfl, rfl⟩, fun h => absurd h h3⟩
end Go.Ax
