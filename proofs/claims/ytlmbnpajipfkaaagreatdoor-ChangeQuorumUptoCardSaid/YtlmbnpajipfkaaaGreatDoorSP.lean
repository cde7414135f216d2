/-
  What a step of the view change answers is a state that may be: plain.
-/
import Derived.Test.YtlmbnpajipfkaaaGreatDoorVL
namespace Go.Ax
set_option linter.all false
set_option maxRecDepth 10000
set_option linter.unusedSimpArgs false
set_option maxHeartbeats 4000000
def VL (u : State) (l : List Mark) : Prop := (∀ m ∈ l, -1 < m.node ∧ m.node < u.vector.length ∧ m.node ≠ u.self ∧ u.vector.getD m.node.toNat ⟨0, 0⟩ = m.draw) ∧ l.Pairwise (fun x y => x.node < y.node)
theorem votedVL (u : State) : votedOk u = true ↔ VL u (u.acks.map ackM) ∧ VL u u.marks ∧ VL u (u.ballots.map balM) ∧ VL u (u.answers.map ansM) := by
 simp only [votedOk, mkList, List.all_cons, List.all_nil, Bool.and_true, Bool.and_eq_true, Option.isNone_iff_eq_none, firstBad_none]
 exact Iff.rfl
theorem VL.nil {u : State} : VL u [] := by unfold VL; simp
theorem msg_rest {c : Cfg} {m : Msg} (h : msgErr c m = 0) : restOk c m = true := by
 unfold msgErr at h
 by_cases hc : cfgOk c
 ·rw [if_pos hc] at h
  by_cases hk : 1 ≤ m.kind ∧ m.kind ≤ 14
  ·rw [if_pos hk] at h
   cases hm : msgOk c m
   ·rw [hm] at h; simp at h
   ·unfold msgOk at hm
    simp only [Bool.and_eq_true] at hm
    exact hm.2.2
  ·rw [if_neg hk] at h; simp at h
 ·rw [if_neg hc] at h; simp at h
theorem msg_log {c : Cfg} {m : Msg} (h : msgErr c m = 0) (hk : m.kind = 7 ∨ m.kind = 8) : logErr m.log c.room = 0 ∧ 0 ≤ m.commit ∧ m.commit ≤ m.log.length ∧ 1 ≤ m.view := by
 obtain ⟨_, _, _, _, _, g1, _, gt⟩ := msg_nums h
 have hu : ub m.kind 8 = true := by rcases hk with e | e <;> rw [e] <;> decide
 have hr := msg_rest h
 unfold restOk at hr
 simp only [hu, Bool.and_eq_true, Bool.not_true, Bool.false_or, decide_eq_true_eq] at hr
 have he : numsEnd m = true ∧ 1 ≤ m.view := by
  unfold numsTail at gt
  rcases hk with e | e
  ·rw [if_neg (by omega), if_neg (by omega), if_neg (by omega), if_neg (by omega), if_pos (by omega)] at gt
   simp only [Bool.and_eq_true, Bool.not_eq_true', decide_eq_false_iff_not] at gt
   exact ⟨gt.2, by omega⟩
  ·rw [if_neg (by omega), if_neg (by omega), if_neg (by omega), if_pos e] at gt
   simp only [Bool.and_eq_true, Bool.not_eq_true', decide_eq_false_iff_not] at gt
   exact ⟨gt.2.2, by omega⟩
 have h2 := he.1
 unfold numsEnd at h2
 simp only [hu, Bool.and_eq_true, Bool.not_true, Bool.false_or, decide_eq_true_eq] at h2
 exact ⟨hr.2.2.2.2.1, g1, h2.2, he.2⟩
theorem msg_last {c : Cfg} {m : Msg} (h : msgErr c m = 0) (hk : m.kind = 7) : 0 ≤ m.last ∧ m.last < m.view := by
 obtain ⟨_, _, _, _, _, _, g1, gt⟩ := msg_nums h
 unfold numsTail at gt
 rw [if_neg (by omega), if_neg (by omega), if_neg (by omega), if_neg (by omega), if_pos (by omega)] at gt
 simp only [Bool.and_eq_true, Bool.not_eq_true', decide_eq_false_iff_not] at gt
 have h2 := gt.2
 have hu : ub m.kind 2 = true := by rw [hk]; decide
 unfold numsEnd at h2
 simp only [hu, Bool.and_eq_true, Bool.not_true, Bool.false_or, decide_eq_true_eq] at h2
 exact ⟨g1, h2.1⟩
theorem status_of {c : Cfg} {s : State} (h : stateErr c s = 0) : s.status = 1 ∨ s.status = 2 ∨ s.status = 3 := by
 rw [stateErr_iff] at h
 obtain ⟨_, _, _, _, hb⟩ := h
 unfold bodyOk at hb
 split at hb
 ·exact .inl (by assumption)
 ·split at hb
  ·exact .inr (.inl (by assumption))
  ·split at hb
   ·exact .inr (.inr (by assumption))
   ·cases hb
structure Goes (c : Cfg) (t : State) (m : Msg) : Prop where
 ok : stateErr c t = 0
 me : msgErr c m = 0
 st : t.status ≠ 3
 ns : ¬ stale t m
theorem Goes.view {c : Cfg} {t : State} {m : Msg} (g : Goes c t m) : (firstS2 c t m).view = m.view := by
 have h := g.ns
 unfold stale at h
 unfold firstS2
 split
 ·rfl
 ·omega
theorem Goes.first {c : Cfg} {t : State} {m : Msg} (g : Goes c t m) : stateErr c (firstS2 c t m) = 0 := by
 obtain ⟨_, _, _, _, gv, _⟩ := msg_nums g.me
 unfold firstS2
 split
 ·exact go_ok g.ok ⟨by assumption, gv⟩
 ·exact g.ok
theorem Goes.status {c : Cfg} {t : State} {m : Msg} (g : Goes c t m) : (firstS2 c t m).status = 2 := by
 have h := g.ns
 have h3 := g.st
 have hs := status_of g.ok
 unfold stale at h
 unfold firstS2
 split
 ·rfl
 ·omega
theorem first_same {c : Cfg} {t : State} {m : Msg} : (firstS2 c t m).self = t.self ∧ (firstS2 c t m).last = t.last ∧ (firstS2 c t m).log = t.log ∧ (firstS2 c t m).commit = t.commit ∧ (firstS2 c t m).vector = t.vector := by
 unfold firstS2; split <;> exact ⟨rfl, rfl, rfl, rfl, rfl⟩
theorem VL.put_mark {u : State} {l : List Mark} (h : VL u l) (up : Mark → Bool) (v : Mark) (hv : -1 < v.node ∧ v.node < u.vector.length ∧ v.node ≠ u.self ∧ u.vector.getD v.node.toNat ⟨0, 0⟩ = v.draw) : VL u (putL (·.node) up v l) := by
 refine ⟨fun x hx => ?_, putL_sorted _ _ _ _ h.2⟩
 rcases putL_mem _ _ _ _ _ hx with rfl | hx
 ·exact hv
 ·exact h.1 x hx
theorem VL.put_bal {u : State} {l : List Ballot} (h : VL u (l.map balM)) (up : Ballot → Bool) (v : Ballot) (hv : -1 < v.node ∧ v.node < u.vector.length ∧ v.node ≠ u.self ∧ u.vector.getD v.node.toNat ⟨0, 0⟩ = v.draw) : VL u ((putL (·.node) up v l).map balM) := by
 obtain ⟨h1, h2⟩ := h
 rw [List.pairwise_map] at h2
 refine ⟨fun x hx => ?_, ?_⟩
 ·obtain ⟨y, hy, rfl⟩ := List.mem_map.1 hx
  rcases putL_mem _ _ _ _ _ hy with rfl | hy
  ·exact hv
  ·exact h1 _ (List.mem_map.2 ⟨y, hy, rfl⟩)
 ·rw [List.pairwise_map]
  exact putL_sorted _ _ _ _ h2
theorem node_vote {c : Cfg} {t : State} {m : Msg} (g : Goes c t m) (hne : m.node ≠ t.self) : -1 < m.node ∧ m.node < (firstS2 c t m).vector.length ∧ m.node ≠ (firstS2 c t m).self ∧ (firstS2 c t m).vector.getD m.node.toNat ⟨0, 0⟩ = drawAt t m.node := by
 obtain ⟨_, g1, g2, _⟩ := msg_nums g.me
 obtain ⟨_, h1, _⟩ := nodes_ok g.ok
 rw [first_same.2.2.2.2, first_same.1]
 exact ⟨by omega, by omega, hne, rfl⟩
theorem start_ok {c : Cfg} {t : State} {m : Msg} (g : Goes c t m) (hne : m.node ≠ t.self) : stateErr c (startS c t m) = 0 := by
 have h := g.first
 have hs := g.status
 rw [stateErr_iff] at h ⊢
 obtain ⟨hc, hh, hl, hv, hb⟩ := h
 refine ⟨hc, hh, hl, ?_, ?_⟩
 ·rw [votedVL] at hv ⊢
  exact ⟨hv.1, hv.2.1.put_mark _ _ (node_vote g hne), hv.2.2.1, hv.2.2.2⟩
 ·unfold bodyOk at hb ⊢
  rw [show (startS c t m).status = (firstS2 c t m).status from rfl]
  rw [hs] at hb ⊢
  exact hb
theorem leads_iff {c : Cfg} {s : State} (h : stateErr c s = 0) : leads c s = true ↔ primaryOf c s.view = s.self := by
 obtain ⟨v1, v2⟩ : 0 ≤ s.view ∧ s.view ≤ 4294967296 := by
  rw [stateErr_iff] at h
  obtain ⟨_, hh, _⟩ := h
  simp [headOff] at hh
  omega
 obtain ⟨_, _, _, _, gc⟩ := nodes_ok h
 unfold leads primaryOf
 rw [if_pos ⟨gc, v1, v2⟩, decide_eq_true_eq]
 exact eq_comm
theorem changing_of {c : Cfg} {u : State} (h : stateErr c u = 0) (hs : u.status = 2) : u.last < u.view ∧ u.acks = [] ∧ u.answers = [] ∧ (u.ballots.length : Int) < c.f ∧ (leads c u = true ∨ u.ballots = []) ∧ ∀ b ∈ u.ballots, 0 ≤ b.last ∧ b.last < u.view ∧ logOk c b.log b.commit = true := by
 rw [stateErr_iff] at h
 obtain ⟨_, _, _, _, hb⟩ := h
 unfold bodyOk at hb
 rw [if_neg (by omega), if_pos hs] at hb
 unfold changingOk at hb
 simp only [Bool.and_eq_true, Bool.not_eq_true', Bool.or_eq_false_iff, decide_eq_false_iff_not, Bool.not_eq_false', List.isEmpty_iff, Bool.or_eq_true, Option.isNone_iff_eq_none, List.find?_eq_none] at hb
 obtain ⟨⟨⟨⟨⟨h1, h2⟩, h3⟩, h4⟩, h5⟩, h6⟩ := hb
 refine ⟨by omega, h2, h3, by omega, h5, fun b hbm => ?_⟩
 have := h6 b hbm
 unfold badBal at this
 simp only [Bool.or_eq_true, decide_eq_true_eq, Bool.not_eq_true', not_or, Bool.not_eq_false] at this
 exact ⟨by omega, by omega, this.2⟩
theorem vote_ok2 {c : Cfg} {t : State} {m : Msg} (g : Goes c t m) (hk : m.kind = 7) (hne : m.node ≠ t.self) (hp : primaryOf c (firstS2 c t m).view = t.self) (hf : ¬ c.f ≤ (voteS c t m).ballots.length) : stateErr c (voteS c t m) = 0 := by
 have h := g.first
 have hs := g.status
 have hld : leads c (firstS2 c t m) = true := (leads_iff h).2 (by rw [hp, first_same.1])
 obtain ⟨c1, c2, c3, c4, _, c6⟩ := changing_of h hs
 obtain ⟨l1, l2, l3, l4⟩ := msg_log g.me (.inl hk)
 obtain ⟨a1, a2⟩ := msg_last g.me hk
 rw [stateErr_iff] at h ⊢
 obtain ⟨hc, hh, hl, hv, hb⟩ := h
 refine ⟨hc, hh, hl, ?_, ?_⟩
 ·rw [votedVL] at hv ⊢
  exact ⟨hv.1, hv.2.1, hv.2.2.1.put_bal _ _ (node_vote g hne), hv.2.2.2⟩
 ·unfold bodyOk
  rw [show (voteS c t m).status = (firstS2 c t m).status from rfl, if_neg (by omega), if_pos hs]
  unfold changingOk
  simp only [Bool.and_eq_true, Bool.not_eq_true', Bool.or_eq_false_iff, decide_eq_false_iff_not, Bool.not_eq_false', List.isEmpty_iff, Bool.or_eq_true, Option.isNone_iff_eq_none, List.find?_eq_none]
  refine ⟨⟨⟨⟨⟨?_, c2⟩, c3⟩, hf⟩, .inl hld⟩, fun b hbm => ?_⟩
  ·rw [show (voteS c t m).view = (firstS2 c t m).view from rfl, show (voteS c t m).last = (firstS2 c t m).last from rfl]; omega
  ·have key : 0 ≤ b.last ∧ b.last < (firstS2 c t m).view ∧ logOk c b.log b.commit = true := by
    rcases putL_mem _ _ _ _ _ hbm with rfl | hbm
    ·exact ⟨a1, by rw [g.view]; exact a2, by unfold logOk; simp [balOf, l1, l2, l3]⟩
    ·exact c6 b hbm
   unfold badBal
   rw [show (voteS c t m).view = (firstS2 c t m).view from rfl]
   simp [key.2.2]
   omega
theorem zeroOk {c : Cfg} {u : State} (hc : cfgOk c) (h1 : 0 ≤ u.self ∧ u.self < nodesOf c) (h2 : 0 ≤ u.view ∧ u.view ≤ 4294967296) (h3 : u.last = u.view) (h4 : u.idle = 0) (h5 : (u.vector.length : Int) = nodesOf c) (hl : logOk c u.log u.commit = true) (h6 : u.acks = [] ∧ u.marks = [] ∧ u.ballots = [] ∧ u.answers = []) (h7 : u.status = 1) : stateErr c u = 0 := by
 rw [stateErr_iff]
 have hc' := hc
 unfold cfgOk at hc'
 refine ⟨hc, ?_, hl, ?_, ?_⟩
 ·unfold headOff
  simp only [Bool.or_eq_false_iff, decide_eq_false_iff_not, Bool.not_eq_false', decide_eq_true_eq]
  refine ⟨⟨⟨⟨⟨⟨⟨⟨by omega, by omega⟩, by omega⟩, by omega⟩, by omega⟩, by omega⟩, by omega⟩, by omega⟩, h5⟩
 ·rw [votedVL, h6.1, h6.2.1, h6.2.2.1, h6.2.2.2]
  exact ⟨VL.nil, VL.nil, VL.nil, VL.nil⟩
 ·unfold bodyOk
  rw [if_pos h7]
  unfold normalOk
  simp [h3, h4, h6]
theorem head_of {c : Cfg} {s : State} (h : stateErr c s = 0) : cfgOk c ∧ (0 ≤ s.self ∧ s.self < nodesOf c) ∧ (0 ≤ s.view ∧ s.view ≤ 4294967296) ∧ (s.vector.length : Int) = nodesOf c ∧ logOk c s.log s.commit = true := by
 rw [stateErr_iff] at h
 obtain ⟨hc, hh, hl, _⟩ := h
 unfold headOff at hh
 simp only [Bool.or_eq_false_iff, decide_eq_false_iff_not, Bool.not_eq_false', decide_eq_true_eq] at hh
 obtain ⟨⟨⟨⟨⟨⟨⟨⟨h1, h2⟩, h3⟩, h4⟩, h5⟩, h6⟩, h7⟩, h8⟩, h9⟩ := hh
 exact ⟨hc, ⟨by omega, by omega⟩, ⟨by omega, by omega⟩, h9, hl⟩
theorem logOk_iff (c : Cfg) (l : List Ent) (k : Int) : logOk c l k = true ↔ logErr l c.room = 0 ∧ 0 ≤ k ∧ k ≤ l.length := by
 unfold logOk
 simp only [Bool.and_eq_true, decide_eq_true_eq]
 exact ⟨fun h => ⟨h.1.1, h.1.2, h.2⟩, fun h => ⟨⟨h.1, h.2.1⟩, h.2.2⟩⟩
theorem inst_ok {c : Cfg} {t : State} {m : Msg} (g : Goes c t m) (hk : m.kind = 8) : stateErr c (instS t m) = 0 := by
 obtain ⟨hc, h1, h2, h3, h4⟩ := head_of g.ok
 obtain ⟨_, _, _, v1, v2, _⟩ := msg_nums g.me
 obtain ⟨l1, l2, l3, l4⟩ := msg_log g.me (.inr hk)
 refine zeroOk hc h1 ⟨v1, v2⟩ rfl rfl h3 ?_ ⟨rfl, rfl, rfl, rfl⟩ rfl
 rw [logOk_iff] at h4 ⊢
 refine ⟨l1, ?_, ?_⟩ <;> simp only [instS] <;> omega
theorem best_ok {c : Cfg} {t : State} {m : Msg} (g : Goes c t m) (hk : m.kind = 7) : logErr (bestP (ownBal (voteS c t m)) (voteS c t m).ballots).log c.room = 0 := by
 have h := g.first
 have hs := g.status
 obtain ⟨_, _, _, _, _, c6⟩ := changing_of h hs
 obtain ⟨l1, _⟩ := msg_log g.me (.inl hk)
 obtain ⟨_, _, _, _, h4⟩ := head_of h
 rw [logOk_iff] at h4
 rcases bestP_mem (voteS c t m).ballots (ownBal (voteS c t m)) with e | e
 ·rw [e]; exact h4.1
 ·rcases putL_mem _ _ _ _ _ e with e2 | e2
  ·rw [e2]; exact l1
  ·have := (c6 _ e2).2.2
   rw [logOk_iff] at this
   exact this.1
theorem led_ok {c : Cfg} {t : State} {m : Msg} (g : Goes c t m) (hk : m.kind = 7) : stateErr c (ledS0 (voteS c t m) (bestP (ownBal (voteS c t m)) (voteS c t m).ballots).log) = 0 := by
 obtain ⟨hc, h1, h2, h3, h4⟩ := head_of g.first
 refine zeroOk hc h1 h2 rfl rfl h3 ?_ ⟨rfl, rfl, rfl, rfl⟩ rfl
 rw [logOk_iff] at h4 ⊢
 refine ⟨best_ok g hk, ?_, ?_⟩ <;> simp only [ledS0, voteS] <;> omega
theorem chosen_in (own : Ballot) (l : List Ballot) : 0 ≤ chosen own l ∧ chosen own l ≤ (bestP own l).log.length := by unfold chosen; omega
theorem carryErr_led {c : Cfg} {t : State} {m : Msg} (g : Goes c t m) (hk : m.kind = 7) : carryErr c (ledS0 (voteS c t m) (bestP (ownBal (voteS c t m)) (voteS c t m).ballots).log) (chosen (ownBal (voteS c t m)) (voteS c t m).ballots) = 0 := by
 have h := chosen_in (ownBal (voteS c t m)) (voteS c t m).ballots
 unfold carryErr
 rw [if_neg (by simp [led_ok g hk]), if_neg (by simp only [ledS0]; omega)]
def ledT (c : Cfg) (u : State) : State := { ledS0 u (bestP (ownBal u) u.ballots).log with commit := max (ledS0 u (bestP (ownBal u) u.ballots).log).commit (chosen (ownBal u) u.ballots) }
theorem leadS_eq {c : Cfg} {t : State} {m : Msg} (g : Goes c t m) (hk : m.kind = 7) : leadS c (voteS c t m) = ledT c (voteS c t m) := by
 unfold leadS ledT carryS
 rw [if_neg (by simp [carryErr_led g hk])]
 generalize voteS c t m = u
 split
 ·rename_i h
  rw [Int.max_eq_left h]
 ·rename_i h
  rw [Int.max_eq_right (by omega)]
theorem lead_ok {c : Cfg} {t : State} {m : Msg} (g : Goes c t m) (hk : m.kind = 7) : stateErr c (leadS c (voteS c t m)) = 0 := by
 rw [leadS_eq g hk]
 obtain ⟨hc, h1, h2, h3, h4⟩ := head_of g.first
 have hch := chosen_in (ownBal (voteS c t m)) (voteS c t m).ballots
 refine zeroOk hc h1 h2 rfl rfl h3 ?_ ⟨rfl, rfl, rfl, rfl⟩ rfl
 rw [logOk_iff] at h4 ⊢
 have h5 : (voteS c t m).commit = (firstS2 c t m).commit := rfl
 refine ⟨best_ok g hk, ?_, ?_⟩ <;> simp only [ledT, ledS0] <;> omega
theorem voted_ok {c : Cfg} {t : State} {m : Msg} (g : Goes c t m) (hk : m.kind = 7) (hne : m.node ≠ t.self) : stateErr c (votedS c t m) = 0 := by
 unfold votedS
 by_cases hp : primaryOf c (firstS2 c t m).view = t.self
 ·rw [if_neg (not_not_intro hp)]
  split
  ·exact lead_ok g hk
  ·rename_i hf; exact vote_ok2 g hk hne hp hf
 ·rw [if_pos hp]; exact g.first
end Go.Ax
namespace Go.Ax
set_option linter.all false
set_option maxRecDepth 10000
set_option linter.unusedSimpArgs false
set_option maxHeartbeats 4000000
theorem lives_same {v : List Draw} {k : Int} {d : Draw} (h : v.getD k.toNat ⟨0, 0⟩ = d) : lives v k d = true := by
 unfold lives
 rw [h, cmp_self]
 simp
theorem struck_self {c : Cfg} {X : State} (h : stateErr c X = 0) : struck X X.vector = X := by
 obtain ⟨h1, h2, h3, h4⟩ := votes_of h
 unfold struck
 have e1 : X.acks.filter (keepAck X.vector) = X.acks := List.filter_eq_self.2 fun x hx => lives_same (h1 x hx).2.2
 have e2 : X.marks.filter (keepMark X.vector) = X.marks := List.filter_eq_self.2 fun x hx => lives_same (h2 x hx).2.2
 have e3 : X.ballots.filter (keepBallot X.vector) = X.ballots := List.filter_eq_self.2 fun x hx => lives_same (h3 x hx).2.2
 have e4 : X.answers.filter (keepAnswer X.vector) = X.answers := List.filter_eq_self.2 fun x hx => lives_same (h4 x hx).2.2
 rw [e1, e2, e3, e4]
theorem first_eq {c : Cfg} {X : State} {m : Msg} (h : X.view = m.view) : firstS2 c X m = X ∧ firstL c X m = [] := by
 unfold firstS2 firstL
 rw [if_neg (by omega), if_neg (by omega)]
 exact ⟨rfl, rfl⟩
theorem startS_same {c : Cfg} {X : State} {m : Msg} (h : X.view = m.view) : startS c X m = { X with marks := putMark X.marks (markOf X m.node) } := by
 unfold startS
 rw [(first_eq h).1]
theorem voteS_same {c : Cfg} {X : State} {m : Msg} (h : X.view = m.view) : voteS c X m = { X with ballots := putBal X.ballots (balOf X m) } := by
 unfold voteS
 rw [(first_eq h).1]
def cnt (k : Int) (l : List Send) : Nat := l.countP (fun x => decide (x.msg.kind = k))
theorem goTo_mem {s : State} {m : Msg} : ∀ (l : List Nat) (acc : List Send) (x : Send), x ∈ l.foldl (goTo s m) acc → x ∈ acc ∨ ∃ i ∈ l, (i : Int) ≠ s.self ∧ x = outM s i m
 | [], acc, x, h => .inl h
 | i :: r, acc, x, h => by
  rcases goTo_mem r (goTo s m acc i) x h with h | ⟨j, hj, h1, h2⟩
  ·unfold goTo at h
   split at h
   ·exact .inl h
   ·rename_i hi
    rcases List.mem_append.1 h with h | h
    ·exact .inl h
    ·exact .inr ⟨i, by simp, hi, List.mem_singleton.1 h⟩
  ·exact .inr ⟨j, by simp [hj], h1, h2⟩
theorem allR_mem {c : Cfg} {s : State} {m : Msg} {x : Send} (h : x ∈ allR c s m) : stateErr c s = 0 ∧ ∃ i : Nat, (i : Int) < nodesOf c ∧ (i : Int) ≠ s.self ∧ x = outM s i m := by
 unfold allR at h
 split at h
 ·rename_i he
  refine ⟨he, ?_⟩
  unfold allS at h
  rcases goTo_mem _ _ _ h with h | ⟨i, hi, h1, h2⟩
  ·cases h
  ·rw [List.mem_range] at hi
   exact ⟨i, by omega, h1, h2⟩
 ·cases h
end Go.Ax
namespace Go.Ax
set_option linter.all false
set_option maxRecDepth 10000
set_option linter.unusedSimpArgs false
set_option maxHeartbeats 4000000
theorem goTo_count {s : State} {m : Msg} : ∀ (l : List Nat) (acc : List Send), (l.foldl (goTo s m) acc).length = acc.length + l.countP (fun i : Nat => decide ((i : Int) ≠ s.self))
 | [], acc => by simp
 | i :: r, acc => by
  rw [List.foldl_cons, goTo_count r, List.countP_cons]
  unfold goTo
  by_cases h : (i : Int) = s.self
  ·simp [h]
  ·simp [h]; omega
theorem range_ne (k : Int) : ∀ N : Nat, (List.range N).countP (fun i : Nat => decide ((i : Int) ≠ k)) = if 0 ≤ k ∧ k < N then N - 1 else N
 | 0 => by simp
 | N + 1 => by
  rw [List.range_succ, List.countP_append, range_ne k N, List.countP_cons, List.countP_nil]
  by_cases h : (N : Int) = k
  ·have h1 : ¬ (0 ≤ k ∧ k < (N : Int)) := by omega
   have h2 : 0 ≤ k ∧ k < ((N + 1 : Nat) : Int) := by omega
   rw [if_neg h1, if_pos h2]
   simp [h]
  ·simp only [h, ne_eq, not_false_eq_true, decide_true, if_true]
   split
   ·rw [if_pos (by omega)]; omega
   ·rw [if_neg (by omega)]
theorem allR_len {c : Cfg} {s : State} {m : Msg} (h : stateErr c s = 0) : ((allR c s m).length : Int) = 2 * c.f := by
 obtain ⟨hc, h1, _⟩ := head_of h
 unfold allR
 rw [if_pos h]
 unfold allS
 rw [goTo_count, range_ne]
 have hN : nodesOf c = 2 * c.f + 1 := by unfold nodesOf; rw [if_pos hc]
 unfold cfgOk at hc
 have hT : ((nodesOf c).toNat : Int) = 2 * c.f + 1 := by omega
 rw [if_pos (by omega)]
 simp
 omega
theorem adm_head {c : Cfg} {s : State} {m : Msg} (he : stateErr c s = 0) (hm : msgErr c m = 0) : (admS c s m).view = s.view ∧ (admS c s m).status = s.status ∧ (admS c s m).last = s.last ∧ (admS c s m).log = s.log ∧ (admS c s m).commit = s.commit := by
 unfold admS
 rw [if_neg (by simp [adm_zero he hm])]
 repeat' split
 all_goals exact ⟨rfl, rfl, rfl, rfl, rfl⟩
end Go.Ax
namespace Go.Ax
set_option linter.all false
set_option maxRecDepth 10000
set_option linter.unusedSimpArgs false
set_option maxHeartbeats 4000000
theorem v_2_0 : ub 2 0 = true := by decide
theorem v_2_1 : ub 2 1 = true := by decide
theorem v_2_2 : ub 2 2 = false := by decide
theorem v_2_3 : ub 2 3 = true := by decide
theorem v_2_4 : ub 2 4 = false := by decide
theorem v_2_5 : ub 2 5 = false := by decide
theorem v_2_6 : ub 2 6 = true := by decide
theorem v_2_7 : ub 2 7 = true := by decide
theorem v_2_8 : ub 2 8 = false := by decide
theorem v_2_9 : ub 2 9 = false := by decide
theorem v_4_0 : ub 4 0 = true := by decide
theorem v_4_1 : ub 4 1 = true := by decide
theorem v_4_2 : ub 4 2 = false := by decide
theorem v_4_3 : ub 4 3 = true := by decide
theorem v_4_4 : ub 4 4 = false := by decide
theorem v_4_5 : ub 4 5 = false := by decide
theorem v_4_6 : ub 4 6 = false := by decide
theorem v_4_7 : ub 4 7 = false := by decide
theorem v_4_8 : ub 4 8 = false := by decide
theorem v_4_9 : ub 4 9 = true := by decide
theorem v_6_0 : ub 6 0 = true := by decide
theorem v_6_1 : ub 6 1 = true := by decide
theorem v_6_2 : ub 6 2 = false := by decide
theorem v_6_3 : ub 6 3 = false := by decide
theorem v_6_4 : ub 6 4 = false := by decide
theorem v_6_5 : ub 6 5 = false := by decide
theorem v_6_6 : ub 6 6 = false := by decide
theorem v_6_7 : ub 6 7 = false := by decide
theorem v_6_8 : ub 6 8 = false := by decide
theorem v_6_9 : ub 6 9 = true := by decide
theorem v_7_0 : ub 7 0 = true := by decide
theorem v_7_1 : ub 7 1 = true := by decide
theorem v_7_2 : ub 7 2 = true := by decide
theorem v_7_3 : ub 7 3 = false := by decide
theorem v_7_4 : ub 7 4 = true := by decide
theorem v_7_5 : ub 7 5 = false := by decide
theorem v_7_6 : ub 7 6 = false := by decide
theorem v_7_7 : ub 7 7 = false := by decide
theorem v_7_8 : ub 7 8 = true := by decide
theorem v_7_9 : ub 7 9 = true := by decide
theorem v_8_0 : ub 8 0 = true := by decide
theorem v_8_1 : ub 8 1 = true := by decide
theorem v_8_2 : ub 8 2 = false := by decide
theorem v_8_3 : ub 8 3 = false := by decide
theorem v_8_4 : ub 8 4 = true := by decide
theorem v_8_5 : ub 8 5 = false := by decide
theorem v_8_6 : ub 8 6 = false := by decide
theorem v_8_7 : ub 8 7 = false := by decide
theorem v_8_8 : ub 8 8 = true := by decide
theorem v_8_9 : ub 8 9 = true := by decide
theorem msgErr_of {c : Cfg} {m : Msg} (hc : cfgOk c) (hk : 1 ≤ m.kind ∧ m.kind ≤ 14) (hu : unusedOk m = true) (hn : numsOk c m = true) (hr : restOk c m = true) : msgErr c m = 0 := by
 unfold msgErr msgOk
 rw [if_pos hc, if_pos hk]
 simp [hu, hn, hr]
theorem NN_of {c : Cfg} (h : cfgOk c) : nodesOf c = NN c := by unfold nodesOf; rw [if_pos h]
structure Head (c : Cfg) (X : State) : Prop where
 cfg : cfgOk c
 self : 0 ≤ X.self ∧ X.self < NN c
 view : 1 ≤ X.view ∧ X.view ≤ 4294967296
 last : 0 ≤ X.last
 vec : (X.vector.length : Int) = NN c
 log : logErr X.log c.room = 0 ∧ 0 ≤ X.commit ∧ X.commit ≤ X.log.length
theorem Head.of {c : Cfg} {X : State} (h : stateErr c X = 0) (hv : 1 ≤ X.view) : Head c X := by
 obtain ⟨hc, h1, h2, h3, h4⟩ := head_of h
 rw [NN_of hc] at h1 h3
 have hl : 0 ≤ X.last := by
  rw [stateErr_iff] at h
  obtain ⟨_, hh, _⟩ := h
  simp [headOff] at hh
  omega
 exact ⟨hc, h1, ⟨hv, h2.2⟩, hl, h3, (logOk_iff _ _ _).1 h4⟩
theorem room_of {c : Cfg} (h : cfgOk c) : 1 ≤ c.room := by unfold cfgOk at h; omega
theorem svc_msg {c : Cfg} {X : State} (h : Head c X) : msgErr c (stampM X (svcM X.view)) = 0 := by
 obtain ⟨hc, h1, h2, h3, h4, h5⟩ := h
 have hr := room_of hc
 refine msgErr_of hc (by simp [stampM, svcM]) ?_ ?_ ?_
 ·simp [unusedOk, pairs, pairsM, pU, stampM, svcM, zeroM, between, v_6_0, v_6_1, v_6_2, v_6_3, v_6_4, v_6_5, v_6_6, v_6_7, v_6_8, v_6_9]
 ·simp [numsOk, numsBase, numsTail, numsEnd, stampM, svcM, zeroM, between, v_6_0, v_6_1, v_6_2, v_6_3, v_6_4, v_6_5, v_6_6, v_6_7, v_6_8, v_6_9]
  omega
 ·simp [restOk, drawNot, lateLog, stampM, svcM, zeroM, between, v_6_0, v_6_1, v_6_2, v_6_3, v_6_4, v_6_5, v_6_6, v_6_7, v_6_8, v_6_9]
  exact h4
theorem dvc_msg {c : Cfg} {X : State} (h : Head c X) (hl : X.last < X.view) : msgErr c (stampM X (dvcM X)) = 0 := by
 obtain ⟨hc, h1, h2, h3, h4, h5⟩ := h
 have hr := room_of hc
 refine msgErr_of hc (by simp [stampM, dvcM]) ?_ ?_ ?_
 ·simp [unusedOk, pairs, pairsM, pU, stampM, dvcM, zeroM, between, v_7_0, v_7_1, v_7_2, v_7_3, v_7_4, v_7_5, v_7_6, v_7_7, v_7_8, v_7_9]
 ·simp [numsOk, numsBase, numsTail, numsEnd, stampM, dvcM, zeroM, between, v_7_0, v_7_1, v_7_2, v_7_3, v_7_4, v_7_5, v_7_6, v_7_7, v_7_8, v_7_9]
  omega
 ·simp [restOk, drawNot, lateLog, stampM, dvcM, zeroM, between, v_7_0, v_7_1, v_7_2, v_7_3, v_7_4, v_7_5, v_7_6, v_7_7, v_7_8, v_7_9, h5.1]
  exact h4
theorem sv_msg {c : Cfg} {X u : State} {log : List Ent} {k : Int} (h : Head c X) (hu : u.view = X.view) (hl : logErr log c.room = 0 ∧ 0 ≤ k ∧ k ≤ log.length) (hp : X.self = X.view.tmod (NN c)) : msgErr c (stampM X (svM u log k)) = 0 := by
 obtain ⟨hc, h1, h2, h3, h4, h5⟩ := h
 have hr := room_of hc
 refine msgErr_of hc (by simp [stampM, svM]) ?_ ?_ ?_
 ·simp [unusedOk, pairs, pairsM, pU, stampM, svM, zeroM, between, v_8_0, v_8_1, v_8_2, v_8_3, v_8_4, v_8_5, v_8_6, v_8_7, v_8_8, v_8_9]
 ·simp [numsOk, numsBase, numsTail, numsEnd, stampM, svM, zeroM, between, hu, ← hp, v_8_0, v_8_1, v_8_2, v_8_3, v_8_4, v_8_5, v_8_6, v_8_7, v_8_8, v_8_9]
  omega
 ·simp [restOk, drawNot, lateLog, stampM, svM, zeroM, between, v_8_0, v_8_1, v_8_2, v_8_3, v_8_4, v_8_5, v_8_6, v_8_7, v_8_8, v_8_9, hl.1]
  exact h4
theorem logErr_room {c : Cfg} {l : List Ent} (h : logErr l c.room = 0) : (l.length : Int) ≤ c.room := by
 unfold logErr at h
 split at h
 ·cases h
 ·split at h
  ·cases h
  ·omega
theorem pok_msg {c : Cfg} {X : State} (h : Head c X) : msgErr c (stampM X (pokM X.view X.log)) = 0 := by
 obtain ⟨hc, h1, h2, h3, h4, h5⟩ := h
 have hr := room_of hc
 have hlr := logErr_room h5.1
 refine msgErr_of hc (by simp [stampM, pokM]) ?_ ?_ ?_
 ·simp [unusedOk, pairs, pairsM, pU, stampM, pokM, zeroM, between, v_4_0, v_4_1, v_4_2, v_4_3, v_4_4, v_4_5, v_4_6, v_4_7, v_4_8, v_4_9]
 ·simp [numsOk, numsBase, numsTail, numsEnd, stampM, pokM, zeroM, between, v_4_0, v_4_1, v_4_2, v_4_3, v_4_4, v_4_5, v_4_6, v_4_7, v_4_8, v_4_9]
  omega
 ·simp [restOk, drawNot, lateLog, stampM, pokM, zeroM, between, v_4_0, v_4_1, v_4_2, v_4_3, v_4_4, v_4_5, v_4_6, v_4_7, v_4_8, v_4_9]
  exact h4
structure LedV (a : Led) : Prop where
 nx : 0 ≤ a.nx ∧ a.nx ≤ 1024
 len : a.L.length ≤ 1024
 ent : ∀ x ∈ a.L, 0 ≤ x.1 ∧ x.1 < 1024 ∧ (x.2.size : Int) ≤ 64
theorem lookL_mem : ∀ {L : List (Int × ByteArray)} {k : Int} {v : ByteArray}, lookL L k = some v → (k, v) ∈ L
 | [], k, v, h => by cases h
 | (a, b) :: r, k, v, h => by
  simp only [lookL] at h
  split at h
  ·rename_i e
   injection h with h
   subst e h
   simp
  ·exact List.mem_cons_of_mem _ (lookL_mem h)
theorem mcount_le : ∀ (l : List (Int × Dat)), mcount l ≤ l.length
 | [] => by simp [mcount]
 | x :: r => by
  have := mcount_le r
  simp only [mcount, List.length_cons]
  split <;> omega
theorem op_value {o : LOp} (h : opErr o = 0) : (o.kind = 1 ∨ o.kind = 2) → (o.value.size : Int) ≤ 64 := by
 intro hk
 unfold opErr at h
 split at h
 ·split at h
  ·cases h
  ·split at h
   ·cases h
   ·omega
 ·split at h
  ·split at h
   ·cases h
   ·split at h
    ·cases h
    ·omega
  ·cases h
theorem would_ok {L : List (Int × ByteArray)} {nx : Int} {o : LOp} (hv : LedV ⟨[], L, nx⟩) (h : opErr o = 0) : answersOk (wouldR L nx o) = true ∧ (wouldR L nx o).code ≠ 7 ∧ ((wouldR L nx o).code = 1 → 0 ≤ (wouldR L nx o).slot ∧ (wouldR L nx o).slot < 1024 ∧ ((wouldR L nx o).value.size : Int) ≤ 64) := by
 obtain ⟨h1, h2, h3⟩ := hv
 simp only at h1 h2 h3
 have hval := op_value h
 rcases op_cases h with ⟨k, s1, s2⟩ | ⟨k, s1⟩ | ⟨k, s1, s2⟩ | ⟨k, s1⟩
 ·have hv1 := hval (.inl k)
  cases hl : lookL L o.slot with
  | none =>
   have hw : wouldR L nx o = ⟨1, o.slot, o.value⟩ := by unfold wouldR; rw [if_pos k, hl]
   rw [hw]; simp [answersOk]; omega
  | some v =>
   have hw : wouldR L nx o = ⟨2, o.slot, v⟩ := by unfold wouldR; rw [if_pos k, hl]
   have := h3 _ (lookL_mem hl)
   rw [hw]; simp at this; simp [answersOk]; omega
 ·have hv1 := hval (.inr k)
  by_cases q : nx = 1024
  ·have hw : wouldR L nx o = ⟨3, 0, ByteArray.empty⟩ := by unfold wouldR; rw [if_neg (show ¬ o.kind = 1 by omega), if_pos k, if_pos q]
   rw [hw]; simp [answersOk]
  ·have hw : wouldR L nx o = ⟨1, nx, o.value⟩ := by unfold wouldR; rw [if_neg (show ¬ o.kind = 1 by omega), if_pos k, if_neg q]
   rw [hw]; simp [answersOk]; omega
 ·cases hl : lookL L o.slot with
  | none =>
   have hw : wouldR L nx o = ⟨5, o.slot, ByteArray.empty⟩ := by unfold wouldR; rw [if_neg (show ¬ o.kind = 1 by omega), if_neg (show ¬ o.kind = 2 by omega), if_pos k, hl]
   rw [hw]; simp [answersOk]; omega
  | some v =>
   have hw : wouldR L nx o = ⟨4, o.slot, v⟩ := by unfold wouldR; rw [if_neg (show ¬ o.kind = 1 by omega), if_neg (show ¬ o.kind = 2 by omega), if_pos k, hl]
   have := h3 _ (lookL_mem hl)
   rw [hw]; simp at this; simp [answersOk]; omega
 ·have hw : wouldR L nx o = ⟨6, countL L, ByteArray.empty⟩ := by unfold wouldR; rw [if_neg (show ¬ o.kind = 1 by omega), if_neg (show ¬ o.kind = 2 by omega), if_neg (show ¬ o.kind = 3 by omega)]
  have : countL L ≤ 1024 := by
   have := mcount_le (encLd L)
   unfold countL
   simp at this
   omega
  rw [hw]; simp [answersOk]; omega
def rowOk (r : Row) : Prop := 0 ≤ r.client ∧ r.client < 16 ∧ 1 ≤ r.number ∧ answersOk r.result = true ∧ r.result.code ≠ 7
theorem LedV.step {a : Led} {e : Ent} (h : LedV a) (hl : a.L.length < 1024) (he : opErr e.op = 0) : LedV (stepR a e) := by
 obtain ⟨h1, h2, h3⟩ := h
 obtain ⟨w1, w2, w3⟩ := would_ok (L := a.L) (nx := a.nx) ⟨h1, h2, h3⟩ he
 refine ⟨?_, ?_, ?_⟩
 ·simp only [stepR, doN]
  split
  ·rename_i hc; have := w3 hc; omega
  ·exact h1
 ·simp only [stepR, doL]
  split
  ·simp only [List.length_cons]; omega
  ·exact h2
 ·simp only [stepR, doL]
  split
  ·rename_i hc
   intro x hx
   rcases List.mem_cons.1 hx with rfl | hx
   ·exact w3 hc
   ·exact h3 x hx
  ·exact h3
theorem rows_ok : ∀ (p : List Ent) (a : Led), LedV a → a.L.length + p.length ≤ 1024 → (∀ r ∈ a.rows, rowOk r) → (∀ e ∈ p, 0 ≤ e.client ∧ e.client < 16 ∧ 1 ≤ e.number ∧ opErr e.op = 0) → ∀ r ∈ (p.foldl stepR a).rows, rowOk r
 | [], a, _, _, hr, _ => hr
 | e :: p, a, hv, hl, hr, hp => by
  obtain ⟨e1, e2, e3, e4⟩ := hp e (by simp)
  simp only [List.length_cons] at hl
  have hLl : (stepR a e).L.length ≤ a.L.length + 1 := by
   simp only [stepR, doL]
   split
   ·simp
   ·omega
  refine rows_ok p (stepR a e) (hv.step (by omega) e4) (by omega) (fun r h => ?_) (fun x hx => hp x (by simp [hx]))
  simp only [stepR] at h
  rcases List.mem_append.1 h with h | h
  ·exact hr r h
  ·rw [List.mem_singleton.1 h]
   obtain ⟨w1, w2, _⟩ := would_ok (L := a.L) (nx := a.nx) ⟨hv.nx, hv.len, hv.ent⟩ e4
   exact ⟨e1, e2, e3, w1, w2⟩
theorem carryR_ok {s : State} {to : Int} (hl : s.log.length ≤ 256) (h : logErr1 [] s.log = 0) (h0 : 0 ≤ to ∧ to ≤ s.log.length) : ∀ x ∈ carryR s to, rowOk x ∧ 1 ≤ x.place ∧ x.place ≤ s.log.length := by
 have hqr : s.log.take to.toNat ++ s.log.drop to.toNat = s.log := List.take_append_drop _ _
 rw [← hqr] at h
 have ho := (ledS_ok _ _ [] h).rows
 intro x hx
 have hx' : x ∈ (ledS (s.log.take to.toNat)).rows := List.mem_of_mem_drop hx
 refine ⟨rows_ok (s.log.take to.toNat) ⟨[], [], 0⟩ ⟨by simp, by simp, by simp⟩ (by simp; omega) (by simp) (fun e he => ?_) x hx', ?_⟩
 ·obtain ⟨A, B, hAB⟩ := List.append_of_mem he
  rw [hAB] at h
  have := ent_ok (entErr_of_log A (B ++ s.log.drop to.toNat) [] e (by simpa using h))
  exact ⟨this.1, this.2.1, this.2.2.1, this.2.2.2.1⟩
 ·obtain ⟨X, Y, hXY⟩ := List.append_of_mem hx'
  obtain ⟨A, e, B, a1, a2, a3⟩ := rows_split (s.log.take to.toNat) ⟨[], [], 0⟩ X Y x hXY (Nat.zero_le _)
  have hlen := congrArg List.length hXY
  rw [ho] at hlen
  simp at hlen
  rw [a3]
  simp only
  omega
theorem reply_msg {c : Cfg} {X : State} {r : Row} (h : Head c X) (hr : rowOk r) (hp : 1 ≤ r.place ∧ r.place ≤ c.room) : msgErr c (replyOf X r).msg = 0 := by
 obtain ⟨hc, h1, h2, h3, h4, h5⟩ := h
 obtain ⟨r1, r2, r3, r4, r5⟩ := hr
 show msgErr c ⟨2, X.self, X.view, ⟨r.client, r.number, ⟨0, 0, ByteArray.empty⟩⟩, r.result, r.place, 0, 0, ⟨0, 0⟩, [], []⟩ = 0
 refine msgErr_of hc (by simp) ?_ ?_ ?_
 ·simp [unusedOk, pairs, pairsM, pU, replyOf, zeroM, between, v_2_0, v_2_1, v_2_2, v_2_3, v_2_4, v_2_5, v_2_6, v_2_7, v_2_8, v_2_9]
 ·simp [numsOk, numsBase, numsTail, numsEnd, replyOf, zeroM, between, v_2_0, v_2_1, v_2_2, v_2_3, v_2_4, v_2_5, v_2_6, v_2_7, v_2_8, v_2_9]
  omega
 ·have h7 : decide (r.place = 0) = decide (r.result.code = 7) := by rw [decide_eq_false (by omega), decide_eq_false r5]
  have ha : asksOk 2 ⟨r.client, r.number, ⟨0, 0, ByteArray.empty⟩⟩ = true := by
   unfold asksOk
   rw [if_neg (by simp only; omega), if_pos (by omega)]
   simp
  simp [restOk, drawNot, lateLog, replyOf, zeroM, between, readsOk, v_2_0, v_2_1, v_2_2, v_2_3, v_2_4, v_2_5, v_2_6, v_2_7, v_2_8, v_2_9, r4, ha]
  exact ⟨fun h => by omega, fun h => absurd h r5⟩
structure RightM (c : Cfg) (X : State) (x : Send) : Prop where
 err : msgErr c x.msg = 0
 node : x.msg.node = X.self
 view : x.msg.view = X.view
 ne : x.to ≠ X.self
 rep : x.msg.kind = 2 → x.to = 7 + x.msg.entry.client
 oth : x.msg.kind ≠ 2 → 0 ≤ x.to ∧ x.to < nodesOf c ∧ x.msg.vector = X.vector
theorem right_out {c : Cfg} {X u : State} {m : Msg} {i : Int} (hu : u.self = X.self ∧ u.vector = X.vector) (hv : m.view = X.view) (hk : 3 ≤ m.kind ∧ m.kind ≤ 12) (h : msgErr c (stampM X m) = 0) (hi : 0 ≤ i ∧ i < nodesOf c) (hn : i ≠ X.self) : RightM c X (outM u i m) := by
 have hb : between m.kind = true := between_kind rfl hk
 have e : stampM u m = stampM X m := by unfold stampM; rw [hu.1, hu.2]
 refine ⟨by rw [show (outM u i m).msg = stampM u m from rfl, e]; exact h, hu.1, hv, hn, fun h2 => ?_, fun _ => ⟨hi.1, hi.2, ?_⟩⟩
 ·have : m.kind = 2 := h2
  omega
 ·show (if between m.kind then u.vector else m.vector) = _
  rw [hb]; exact hu.2
end Go.Ax
namespace Go.Ax
set_option linter.all false
set_option maxRecDepth 10000
set_option linter.unusedSimpArgs false
set_option maxHeartbeats 4000000
theorem RightM.congr {c : Cfg} {X Y : State} {x : Send} (h : RightM c X x) (h1 : X.self = Y.self) (h2 : X.view = Y.view) (h3 : X.vector = Y.vector) : RightM c Y x :=
 ⟨h.err, by rw [← h1]; exact h.node, by rw [← h2]; exact h.view, by rw [← h1]; exact h.ne, h.rep, by rw [← h3]; exact h.oth⟩
theorem right_go {c : Cfg} {s : State} {v : Int} (h : stateErr c (goS s v) = 0) (hv : 1 ≤ v) : ∀ x ∈ goL c s v, RightM c (goS s v) x := by
 intro x hx
 obtain ⟨_, i, h1, h2, rfl⟩ := allR_mem hx
 exact right_out ⟨rfl, rfl⟩ rfl (show (3 : Int) ≤ 6 ∧ (6 : Int) ≤ 12 by decide) (svc_msg (Head.of h hv)) ⟨by omega, h1⟩ h2
theorem right_first {c : Cfg} {t : State} {m : Msg} (g : Goes c t m) : ∀ x ∈ firstL c t m, RightM c (firstS2 c t m) x := by
 intro x hx
 have h := g.first
 obtain ⟨_, _, v, _⟩ := head_of g.ok
 unfold firstL at hx
 unfold firstS2 at h ⊢
 split at hx
 ·rename_i hv
  rw [if_pos hv] at h ⊢
  exact right_go h (by omega) x hx
 ·cases hx
theorem primary_in {c : Cfg} {v : Int} (hc : cfgOk c) (hv : 0 ≤ v ∧ v ≤ 4294967296) : 0 ≤ primaryOf c v ∧ primaryOf c v < nodesOf c ∧ primaryOf c v = v.tmod (NN c) := by
 have hc' := hc
 unfold cfgOk at hc'
 unfold primaryOf nodesOf
 rw [if_pos ⟨hc, hv⟩, if_pos hc]
 refine ⟨Int.tmod_nonneg _ hv.1, Int.tmod_lt_of_pos _ (by omega), rfl⟩
theorem one_ok {c : Cfg} {X : State} {to : Int} {m : Msg} (h : stateErr c X = 0) (ht : 0 ≤ to ∧ to < nodesOf c ∧ to ≠ X.self) : oneS c X to m = outM X to m := by
 unfold oneS
 have : oneErr c X to = 0 := by
  unfold oneErr
  rw [if_neg (by simp [h])]
  have : toOk c X to = true := by simp [toOk, ht.1, ht.2.1, ht.2.2]
  rw [this]
  rfl
 rw [if_neg (by simp [this])]
theorem right_ball {c : Cfg} {X : State} (h : stateErr c X = 0) (hs : X.status = 2) : ∀ x ∈ ballL c X, RightM c X x := by
 intro x hx
 have hl := (changing_of h hs).1
 obtain ⟨hc, _, hv, _⟩ := head_of h
 have hp := primary_in hc hv
 have hlast : 0 ≤ X.last := by
  have h' := h
  rw [stateErr_iff] at h'
  obtain ⟨_, hh, _⟩ := h'
  simp [headOff] at hh
  omega
 unfold ballL at hx
 split at hx
 ·cases hx
 ·rename_i hne
  rw [List.mem_singleton.1 hx, one_ok h ⟨hp.1, hp.2.1, hne⟩]
  exact right_out ⟨rfl, rfl⟩ rfl (show (3 : Int) ≤ 7 ∧ (7 : Int) ≤ 12 by decide) (dvc_msg (Head.of h (by omega)) hl) ⟨hp.1, hp.2.1⟩ hne
theorem right_start {c : Cfg} {t : State} {m : Msg} (g : Goes c t m) (hne : m.node ≠ t.self) : ∀ x ∈ startL c t m, RightM c (startS c t m) x := by
 intro x hx
 unfold startL at hx
 rcases List.mem_append.1 hx with hx | hx
 ·exact (right_first g x hx).congr rfl rfl rfl
 ·split at hx
  ·exact right_ball (start_ok g hne) g.status x hx
  ·cases hx
theorem right_lead {c : Cfg} {t : State} {m : Msg} (g : Goes c t m) (hk : m.kind = 7) (hp : primaryOf c (firstS2 c t m).view = t.self) : ∀ x ∈ leadL c (voteS c t m), RightM c (leadS c (voteS c t m)) x := by
 intro x hx
 have hld := led_ok g hk
 have hch := chosen_in (ownBal (voteS c t m)) (voteS c t m).ballots
 have hbl := best_ok g hk
 have fv := g.view
 obtain ⟨_, _, _, lv⟩ := msg_log g.me (.inl hk)
 obtain ⟨hc, h1, hv, h4, h5⟩ := head_of hld
 rw [leadS_eq g hk]
 have hself : (ledS0 (voteS c t m) (bestP (ownBal (voteS c t m)) (voteS c t m).ballots).log).self = t.self := first_self
 have hview : (ledS0 (voteS c t m) (bestP (ownBal (voteS c t m)) (voteS c t m).ballots).log).view = m.view := fv
 have hH := Head.of hld (by rw [hview]; exact lv)
 have hpp : (ledS0 (voteS c t m) (bestP (ownBal (voteS c t m)) (voteS c t m).ballots).log).self = (ledS0 (voteS c t m) (bestP (ownBal (voteS c t m)) (voteS c t m).ballots).log).view.tmod (NN c) := by
  rw [hself, ← hp, hview, fv]
  rw [hview] at hv
  exact (primary_in hc hv).2.2
 have cg : RightM c (ledS0 (voteS c t m) (bestP (ownBal (voteS c t m)) (voteS c t m).ballots).log) x → RightM c (ledT c (voteS c t m)) x := fun h => h.congr rfl rfl rfl
 refine cg ?_
 unfold leadL at hx
 rcases List.mem_append.1 hx with hx | hx
 ·obtain ⟨_, i, i1, i2, rfl⟩ := allR_mem hx
  exact right_out ⟨rfl, rfl⟩ rfl (show (3 : Int) ≤ 8 ∧ (8 : Int) ≤ 12 by decide) (sv_msg hH rfl ⟨hbl, hch⟩ hpp) ⟨by omega, i1⟩ i2
 ·have hce := carryErr_led g hk
  obtain ⟨f1, f2, f3, f4⟩ := log_facts hld
  have hroom := logErr_room hH.log.1
  generalize ledS0 (voteS c t m) (bestP (ownBal (voteS c t m)) (voteS c t m).ballots).log = Y at *
  generalize chosen (ownBal (voteS c t m)) (voteS c t m).ballots = C at *
  have hto : 0 ≤ C ∧ C ≤ Y.log.length := by
   unfold carryErr at hce
   rw [if_neg (by simp [hld])] at hce
   by_cases hq : C < 0 ∨ (Y.log.length : Int) < C
   ·rw [if_pos hq] at hce; cases hce
   ·omega
  unfold carryL at hx
  rw [if_neg (by simp [hce])] at hx
  split at hx
  ·cases hx
  ·split at hx
   ·split at hx
    ·obtain ⟨r, hr, rfl⟩ := List.mem_map.1 hx
     obtain ⟨r1, r2, r3⟩ := carryR_ok f1 f2 hto r hr
     have hn7 : nodesOf c ≤ 7 := by unfold nodesOf; rw [if_pos hc]; unfold cfgOk at hc; omega
     have hcl := r1.1
     refine ⟨reply_msg hH r1 ⟨r2, by omega⟩, rfl, rfl, ?_, fun _ => rfl, fun h => absurd rfl h⟩
     show 7 + r.client ≠ Y.self
     omega
    ·cases hx
   ·cases hx
theorem right_voted {c : Cfg} {t : State} {m : Msg} (g : Goes c t m) (hk : m.kind = 7) : ∀ x ∈ votedL c t m, RightM c (votedS c t m) x := by
 intro x hx
 unfold votedL at hx
 unfold votedS
 by_cases hp : primaryOf c (firstS2 c t m).view = t.self
 ·rw [if_neg (not_not_intro hp)] at hx ⊢
  by_cases hf : c.f ≤ (voteS c t m).ballots.length
  ·rw [if_pos hf] at hx ⊢
   rcases List.mem_append.1 hx with hx | hx
   ·rw [leadS_eq g hk]
    exact (right_first g x hx).congr rfl rfl rfl
   ·exact right_lead g hk hp x hx
  ·rw [if_neg hf] at hx ⊢
   rw [List.append_nil] at hx
   exact (right_first g x hx).congr rfl rfl rfl
 ·rw [if_pos hp] at hx ⊢
  rw [List.append_nil] at hx
  exact right_first g x hx
theorem right_inst {c : Cfg} {t : State} {m : Msg} (g : Goes c t m) (hk : m.kind = 8) (hne : m.node ≠ t.self) : ∀ x ∈ instL c t m, RightM c (instS t m) x := by
 intro x hx
 have hi := inst_ok g hk
 obtain ⟨hc, g1, g2, _⟩ := msg_nums g.me
 rw [← NN_of hc] at g2
 obtain ⟨_, _, _, lv⟩ := msg_log g.me (.inr hk)
 unfold instL at hx
 split at hx
 ·rw [List.mem_singleton.1 hx, one_ok hi ⟨g1, g2, hne⟩]
  exact right_out ⟨rfl, rfl⟩ rfl (show (3 : Int) ≤ 4 ∧ (4 : Int) ≤ 12 by decide) (pok_msg (Head.of hi lv)) ⟨g1, g2⟩ hne
 ·cases hx
structure StandOk (c : Cfg) (s X : State) (L : List Send) : Prop where
 ok : stateErr c X = 0
 right : ∀ x ∈ L, RightM c X x
 view : s.view ≤ X.view
 last : s.last ≤ X.last
 vec : X.vector = s.vector ∨ (s.vector.length = X.vector.length ∧ ∃ v, X.vector = mxv s.vector v)
 up : s.last < X.last → X.status = 1
 chg : X.status = 2 → X.last = s.last ∧ X.commit = s.commit ∧ X.log = s.log
 quiet : X.status = 3 → L = []
theorem stand_call {k : Int} (hk : k = 6 ∨ k = 7 ∨ k = 8) {c : Cfg} {s : State} {m : Msg} (hE : kErr c s m k = 0) : StandOk c s (callS k c s m) (callL k c s m) := by
 obtain ⟨he, hkd, hme⟩ := kErr_zero hE
 have hok := admS_ok he hme
 obtain ⟨b1, b2, b3, b4, b5⟩ := adm_head he hme
 have hlv : s.last ≤ s.view := by
  have h' := he
  rw [stateErr_iff] at h'
  obtain ⟨_, hh, _⟩ := h'
  simp [headOff] at hh
  omega
 have hvec : (admS c s m).vector = s.vector ∨ (s.vector.length = (admS c s m).vector.length ∧ ∃ v, (admS c s m).vector = mxv s.vector v) := by
  have hl := (adm_short he hme).1
  rcases admS_cases he hme with ⟨e, _⟩ | ⟨e, _⟩
  ·rw [e]; exact .inl rfl
  ·exact .inr ⟨hl.symm, m.vector, by rw [e]; rfl⟩
 have hS : callS k c s m = if admB c s m = false then admS c s m else stepS k c (admS c s m) m := by unfold callS; simp only [hE, ne_eq, not_true_eq_false, if_false]
 have hL : callL k c s m = if admB c s m = false then [] else stepL k c (admS c s m) m := by unfold callL; simp only [hE, ne_eq, not_true_eq_false, if_false]
 rw [hS, hL]
 have same : StandOk c s (admS c s m) [] := ⟨hok, fun x hx => (by cases hx), by omega, by omega, hvec, fun h => by omega, fun _ => ⟨b3, b5, b4⟩, fun _ => rfl⟩
 cases hB : admB c s m
 ·simp only [if_true]; exact same
 ·simp only [Bool.true_eq_false, if_false]
  have hne : m.node ≠ (admS c s m).self := by rw [admS_self he hme]; exact admB_node hB (between_kind hkd (by omega))
  generalize admS c s m = t at *
  by_cases hst : t.status = 3 ∨ stale t m
  ·have e1 : stepS k c t m = t := by unfold stepS; rw [if_pos hst]
   have e2 : stepL k c t m = [] := by unfold stepL; rw [if_pos hst]
   rw [e1, e2]; exact same
  ·have g : Goes c t m := ⟨hok, hme, fun h => hst (.inl h), fun h => hst (.inr h)⟩
   have f1 := first_same (c := c) (t := t) (m := m)
   have fv := g.view
   have fs := g.status
   have hns := g.ns
   unfold stale at hns
   have fvec : (firstS2 c t m).vector = s.vector ∨ (s.vector.length = (firstS2 c t m).vector.length ∧ ∃ v, (firstS2 c t m).vector = mxv s.vector v) := by rw [f1.2.2.2.2]; exact hvec
   obtain ⟨_, f2, f3, f4, f5⟩ := f1
   rcases hk with rfl | rfl | rfl
   ·have e1 : stepS 6 c t m = startS c t m := by unfold stepS; rw [if_neg hst, if_pos rfl]
    have e2 : stepL 6 c t m = startL c t m := by unfold stepL; rw [if_neg hst, if_pos rfl]
    rw [e1, e2]
    have hl : (startS c t m).last = s.last := by rw [← b3, ← f2]; rfl
    refine ⟨start_ok g hne, right_start g hne, ?_, by omega, fvec, fun h => by omega, fun _ => ⟨hl, by rw [← b5, ← f4]; rfl, by rw [← b4, ← f3]; rfl⟩, fun h => ?_⟩
    ·rw [show (startS c t m).view = (firstS2 c t m).view from rfl]; omega
    ·have : (firstS2 c t m).status = 3 := h
     omega
   ·have e1 : stepS 7 c t m = votedS c t m := by unfold stepS; rw [if_neg hst, if_neg (show ¬ (7 : Int) = 6 by decide), if_pos rfl]
    have e2 : stepL 7 c t m = votedL c t m := by unfold stepL; rw [if_neg hst, if_neg (show ¬ (7 : Int) = 6 by decide), if_pos rfl]
    rw [e1, e2]
    have hr := right_voted g hkd
    have ho := voted_ok g hkd hne
    unfold votedS at hr ho ⊢
    by_cases hp : primaryOf c (firstS2 c t m).view = t.self
    ·rw [if_neg (not_not_intro hp)] at hr ho ⊢
     by_cases hf : c.f ≤ (voteS c t m).ballots.length
     ·rw [if_pos hf] at hr ho ⊢
      rw [leadS_eq g hkd] at hr ho ⊢
      have v1 : (ledT c (voteS c t m)).view = m.view := fv
      have v2 : (ledT c (voteS c t m)).last = m.view := fv
      have v3 : (ledT c (voteS c t m)).status = 1 := rfl
      exact ⟨ho, hr, by omega, by omega, fvec, fun _ => v3, fun h => by omega, fun h => by omega⟩
     ·rw [if_neg hf] at hr ho ⊢
      have hl : (voteS c t m).last = s.last := by rw [← b3, ← f2]; rfl
      refine ⟨ho, hr, ?_, by omega, fvec, fun h => by omega, fun _ => ⟨hl, by rw [← b5, ← f4]; rfl, by rw [← b4, ← f3]; rfl⟩, fun h => ?_⟩
      ·rw [show (voteS c t m).view = (firstS2 c t m).view from rfl]; omega
      ·have : (firstS2 c t m).status = 3 := h
       omega
    ·rw [if_pos hp] at hr ho ⊢
     exact ⟨ho, hr, by omega, by omega, fvec, fun h => by omega, fun _ => ⟨by omega, by rw [f4, b5], by rw [f3, b4]⟩, fun h => by omega⟩
   ·have e1 : stepS 8 c t m = instS t m := by unfold stepS; rw [if_neg hst, if_neg (show ¬ (8 : Int) = 6 by decide), if_neg (show ¬ (8 : Int) = 7 by decide)]
    have e2 : stepL 8 c t m = instL c t m := by unfold stepL; rw [if_neg hst, if_neg (show ¬ (8 : Int) = 6 by decide), if_neg (show ¬ (8 : Int) = 7 by decide)]
    rw [e1, e2]
    have v1 : (instS t m).view = m.view := rfl
    have v2 : (instS t m).last = m.view := rfl
    have v3 : (instS t m).status = 1 := rfl
    exact ⟨inst_ok g hkd, right_inst g hkd hne, by omega, by omega, hvec, fun _ => v3, fun h => by omega, fun h => by omega⟩
end Go.Ax
