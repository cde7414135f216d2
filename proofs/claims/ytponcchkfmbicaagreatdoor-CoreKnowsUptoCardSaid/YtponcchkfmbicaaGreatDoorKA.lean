/-
  A message admitted once more; vectors go up: plain.
-/
import Derived.Test.YtponcchkfmbicaaGreatDoorM17
import Derived.Test.YtponcchkfmbicaaGreatDoorM18
import Derived.Test.YtponcchkfmbicaaGreatDoorMF
import Derived.Test.YtponcchkfmbicaaGreatDoorM19
import Derived.Test.YtponcchkfmbicaaGreatDoorEQ
namespace Go.Ax
set_option linter.all false
set_option maxRecDepth 10000
set_option linter.unusedSimpArgs false
set_option maxHeartbeats 4000000

theorem cmp_self (x : Draw) : cmp x x = 0 := by unfold cmp; rw [if_pos rfl]
theorem cmp_zero {x y : Draw} (h : cmp x y = 0) : x = y := by
  unfold cmp at h
  split at h
  · assumption
  · split at h <;> simp at h
theorem cmp_lt_trans {x y z : Draw} (h1 : cmp x y < 0) (h2 : cmp y z < 0) : cmp x z < 0 := by
  cases x with
  | mk a b => cases y with
    | mk c e => cases z with
      | mk f g =>
        simp only [cmp, Draw.mk.injEq] at h1 h2 ⊢
        repeat' split at h1
        all_goals repeat' split at h2
        all_goals repeat' split
        all_goals omega
theorem cmp_le_trans {x y z : Draw} (h1 : cmp x y ≤ 0) (h2 : cmp y z ≤ 0) : cmp x z ≤ 0 := by
  by_cases e1 : cmp x y = 0
  · rw [cmp_zero e1]; exact h2
  · by_cases e2 : cmp y z = 0
    · rw [← cmp_zero e2]; exact h1
    · have := cmp_lt_trans (show cmp x y < 0 by omega) (show cmp y z < 0 by omega); omega
theorem mxd_ge (x y : Draw) : cmp x (mxd x y) ≤ 0 := by
  unfold mxd
  split
  · omega
  · rw [cmp_self]; omega
theorem mxd_ge2 (x y : Draw) : cmp y (mxd x y) ≤ 0 := by
  unfold mxd
  split
  · rw [cmp_self]; omega
  · rw [cmp_neg x y]; omega
theorem mxd_again (x y : Draw) : mxd (mxd x y) y = mxd x y := by
  have := mxd_ge2 x y
  rw [cmp_neg (mxd x y) y] at this
  generalize mxd x y = z at *
  unfold mxd
  rw [if_neg (by omega)]
theorem mxv_again : ∀ (a b : List Draw), mxv (mxv a b) b = mxv a b
  | [], b => by simp [mxv]
  | a, [] => by simp [mxv]
  | x :: a, y :: b => by
    have := mxv_again a b
    simp only [mxv, List.zipWith_cons_cons] at this ⊢
    rw [mxd_again, this]
theorem filter_again {α : Type} (p : α → Bool) (l : List α) : (l.filter p).filter p = l.filter p := by
  rw [List.filter_filter]
  simp
theorem struck_again (s : State) (v : List Draw) : struck (struck s v) v = struck s v := by
  unfold struck
  simp only [filter_again]
/-- Admitted once more a message changes nothing. -/
theorem adm_again {c : Cfg} {s : State} {m : Msg} (h : stateErr c s = 0) (hm : msgErr c m = 0) : admS c (admS c s m) m = admS c s m ∧ admB c (admS c s m) m = admB c s m := by
  have hok := admS_ok h hm
  rcases admS_cases h hm with ⟨e, _⟩ | ⟨e, eb, hb, hn, hu, ho, ha⟩
  · rw [e]; exact ⟨e, rfl⟩
  · obtain ⟨_, g1, g2, g3, _⟩ := nodes_ok h
    obtain ⟨g4, g5, g6⟩ := msg_ok hm hb
    have hl : m.vector.length = s.vector.length := by omega
    rw [e] at hok ⊢
    rw [eb]
    have k1 : overB (struck s (mxv s.vector m.vector)) m = false := by
      show decide (0 < cmp ((mxv s.vector m.vector).getD m.node.toNat ⟨0, 0⟩) (m.vector.getD m.node.toNat ⟨0, 0⟩)) = false
      rw [mxv_get hl (by omega)]
      have := mxd_ge2 (s.vector.getD m.node.toNat ⟨0, 0⟩) (m.vector.getD m.node.toNat ⟨0, 0⟩)
      have h2 : ¬ cmp (s.vector.getD m.node.toNat ⟨0, 0⟩) (m.vector.getD m.node.toNat ⟨0, 0⟩) > 0 := by
        unfold overB at ho
        have := of_decide_eq_false ho
        omega
      refine decide_eq_false ?_
      unfold mxd
      split
      · rw [cmp_self]; omega
      · exact h2
    have k2 : aheadB (struck s (mxv s.vector m.vector)) m = false := by
      have := (up_mxv (c := c) ⟨g2, by omega⟩ hl ha).own
      show decide (0 < cmp (m.vector.getD s.self.toNat ⟨0, 0⟩) ((mxv s.vector m.vector).getD s.self.toNat ⟨0, 0⟩)) = false
      rw [this]
      exact ha
    rcases admS_cases hok hm with ⟨e2, q⟩ | ⟨e2, eb2, _⟩
    · rcases q with ⟨q, _⟩ | ⟨_, ⟨q, _⟩ | ⟨_, ⟨q, _⟩ | ⟨_, q, _⟩⟩⟩
      · rw [hb] at q; cases q
      · exact absurd q hn
      · rw [hu] at q; cases q
      · rw [k1, k2] at q; simp at q
    · rw [e2, eb2]
      refine ⟨?_, rfl⟩
      show struck (struck s (mxv s.vector m.vector)) (mxv (mxv s.vector m.vector) m.vector) = _
      rw [mxv_again, struck_again]
/-- What a message leaves as it is; how the vector goes. -/
structure Later (s t : State) : Prop where
  self : t.self = s.self
  view : t.view = s.view
  commit : t.commit = s.commit
  status : t.status = s.status
  log : t.log = s.log
  len : t.vector.length = s.vector.length
  own : t.vector.getD s.self.toNat ⟨0, 0⟩ = s.vector.getD s.self.toNat ⟨0, 0⟩
  up : ∀ k, k < s.vector.length → cmp (s.vector.getD k ⟨0, 0⟩) (t.vector.getD k ⟨0, 0⟩) ≤ 0
theorem Later.refl (s : State) : Later s s := ⟨rfl, rfl, rfl, rfl, rfl, rfl, rfl, fun k _ => by rw [cmp_self]; omega⟩
theorem Later.trans {a b c : State} (h : Later a b) (g : Later b c) : Later a c :=
  ⟨g.self.trans h.self, g.view.trans h.view, g.commit.trans h.commit, g.status.trans h.status, g.log.trans h.log, g.len.trans h.len, by rw [← h.own, ← h.self]; exact g.own, fun k hk => cmp_le_trans (h.up k hk) (g.up k (by rw [h.len]; exact hk))⟩
theorem adm_later {c : Cfg} {s : State} {m : Msg} (h : stateErr c s = 0) (hm : msgErr c m = 0) : Later s (admS c s m) := by
  rcases admS_cases h hm with ⟨e, _⟩ | ⟨e, eb, hb, hn, hu, ho, ha⟩
  · rw [e]; exact .refl _
  · obtain ⟨_, g1, g2, g3, _⟩ := nodes_ok h
    obtain ⟨g4, g5, g6⟩ := msg_ok hm hb
    have hl : m.vector.length = s.vector.length := by omega
    rw [e]
    refine ⟨rfl, rfl, rfl, rfl, rfl, by simp [struck, mxv, hl], (up_mxv (c := c) ⟨g2, by omega⟩ hl ha).own, fun k hk => ?_⟩
    simp only [struck]
    rw [mxv_get hl hk]
    exact mxd_ge _ _
end Go.Ax

namespace Go.Ax
set_option linter.all false
variable {n d : Nat}
set_option maxRecDepth 10000
set_option linter.unusedSimpArgs false
set_option maxHeartbeats 8000000

theorem e_Compare_up (a b : List Draw) (h : b.length = a.length) (hl : a.length ≤ 7) (hu : ∀ k, k < a.length → cmp (a.getD k ⟨0, 0⟩) (b.getD k ⟨0, 0⟩) ≤ 0) (hn : 1048577 < n) :
    ∃ r : Int, (r = 1 ∨ r = 2) ∧ runFn T n (d + 2) 23 [.dat (encV a), .dat (encV b)] [] = some (.dat (di r), []) := by
  have hz : (a.zip b).length = a.length := by simp; omega
  have main := loop_fold (body := XCode.run (runFn T n (d + 1)) n 0 xf_vector_Compare_b0) (head := headOf 0 xf_vector_Compare_k0) (fun i (x : Bool) => ⟨[(0, .dat (encV a)), (1, .dat (encV b)), (5, .dat (.bool false)), (6, .dat (.bool x)), (14, .dat (di a.length)), (15, .dat (di i))], []⟩) (fun _ _ => True) (a.zip b)
    (fun x p => x || decide (cmp p.1 p.2 = -1)) (fun x => (.exit 0, ⟨[(5, .dat (.bool false)), (6, .dat (.bool x))], []⟩)) false trivial (fun i x hi _ => ⟨trivial, nextK_some ?_⟩) (fun x _ => ?_) (fun x s h => by cases h) n (by omega)
  · have hl' : (a.length : Int) = b.length := by omega
    simp [xf_vector_Compare_k0] at main
    generalize List.foldl (fun (x : Bool) (p : Draw × Draw) => x || decide (cmp p.1 p.2 = -1)) false (a.zip b) = R at main
    cases R
    · refine ⟨1, .inl rfl, ?_⟩
      rw [runFn_succ]
      simp [T, xf_vector_Compare, xf_vector_Compare_k0, h, main]
      try (rw [← h] at main; simp [main])
    · refine ⟨2, .inr rfl, ?_⟩
      rw [runFn_succ]
      simp [T, xf_vector_Compare, xf_vector_Compare_k0, h, main]
      try (rw [← h] at main; simp [main])
  · have hia : i < a.length := by omega
    have hib : i < b.length := by omega
    have hia' : (i : Int) < a.length := by omega
    have hib' : (i : Int) < b.length := by omega
    have hw := wrap_i i (by omega)
    have h43 := p43 (n := n) (d := d) a[i] b[i]
    have hu' := hu i hia
    simp only [List.getD, List.getElem?_eq_getElem hia, List.getElem?_eq_getElem hib, Option.getD_some] at hu'
    rcases cmp_cases a[i] b[i] with e | e | e
    · rw [e] at h43
      simp [xf_vector_Compare_b0, xf_vector_Compare_k0, hia, hib, hia', hib', hw, h43, e]
    · omega
    · rw [e] at h43
      simp [xf_vector_Compare_b0, xf_vector_Compare_k0, hia, hib, hia', hib', hw, h43, e]
  · have : ¬ ((a.zip b).length < a.length) := by omega
    rw [hz]
    simp [xf_vector_Compare_b0]
abbrev boxOw (s : State) : Blk := .box [.dat (di s.self), .dat (di s.status), .dat (di s.view), .dat (di s.last), .own 3 0 s.log.length, .dat (di s.commit), .own 4 0 s.vector.length, .dat (di s.idle), .own 5 0 s.acks.length, .own 6 0 s.marks.length, .own 7 0 s.ballots.length, .own 8 0 s.answers.length]
abbrev encMs (l : List Msg) : Dat := .sl 18 false (l.map encM)
abbrev HO (c : Cfg) (s now : State) (z : Bool) : List Blk := [boxC c, boxS s, boxOw now, .arr 38 5 true z (now.log.map encE), .arr 43 2 true z (now.vector.map encD), .arr 67 4 true z (now.acks.map encAck), .arr 69 3 true z (now.marks.map encMark), .arr 71 6 false z (now.ballots.map encBal), .arr 73 6 false z (now.answers.map encAns)]
abbrev HD (c : Cfg) (s now : State) : List Blk := [boxC c, boxS s, boxS now]
end Go.Ax

namespace Go.Ax
set_option linter.all false
variable {n d : Nat}
set_option maxRecDepth 10000
set_option linter.unusedSimpArgs false
set_option maxHeartbeats 16000000

def S_kio (c : Cfg) (s now t : State) (l : List Msg) (i : Int) (k : Nat) : St := ⟨[(2, .dat (encMs l)), (3, .ptr 0 0), (4, .ptr 1 0), (7, .ptr 2 0), (8, .dat (di i)), (9, .ptr 9 0), (16, .dat (di k))], HO c s now true ++ [boxS t]⟩
theorem l_kio (c : Cfg) (s now t : State) (l : List Msg) (i : Nat) (hi : i ≤ l.length) (hl : l.length ≤ 1048576) (hm : ∀ m ∈ l, SmallM m) (hnow : stateErr c now = 0) (ht : stateErr c t = 0) (hs : Small2 t) (hN : ∀ x ∈ t.vector, Nn x) (hL : Later now t) (hn : 2097157 < n) :
    loopAt (XCode.run (runFn T n (d + 9)) n 0 xf_law09_CoreKnows_b1) (headOf 0 xf_law09_CoreKnows_k1) n (S_kio c s now t l i 0) = some (.exit 2, ⟨[(2, .dat (encMs l)), (3, .ptr 0 0), (4, .ptr 1 0), (7, .ptr 2 0), (8, .dat (di i)), (9, .ptr 9 0)], HO c s now true ++ [boxS t]⟩) := by
  refine loop_for (S_kio c s now t l i) i _ (fun k hk => nextK_some ?_) ?_ (fun s h => by simp at h) n (by omega)
  · have hkl : k < l.length := by omega
    have hkl' : (k : Int) < l.length := by omega
    have hk' : (k : Int) < i := by omega
    have hw := wrap_i k (by omega)
    have hlen := hL.len
    obtain ⟨_, g1, g2, g3, gc⟩ := nodes_ok ht
    have hf : 1 ≤ c.f ∧ c.f ≤ 3 := by unfold cfgOk at gc; omega
    simp only [NN] at g1 g3
    by_cases q0 : c.unguarded = false
    · have q1 := eq_true q0
      by_cases q2 : l[k].vector.length = t.vector.length
      · have q2' : ((l[k].vector.length : Int) = t.vector.length) = True := eq_true (by omega)
        by_cases q3 : 0 ≤ l[k].node
        · by_cases q4 : l[k].node < t.vector.length
          · have h5 := e_Over (n := n) (d := d + 6) now.vector l[k].vector l[k].node (by omega) (by omega) ⟨q3, by omega⟩
            cases q5 : decide (0 < cmp (now.vector.getD l[k].node.toNat ⟨0, 0⟩) (l[k].vector.getD l[k].node.toNat ⟨0, 0⟩))
            · rw [q5] at h5
              simp (maxSteps := 2000000) [xf_law09_CoreKnows_b1, xf_law09_CoreKnows_k1, S_kio, hk, hk', hkl, hkl', hw, q1, q2, q2', q3, q4, h5]
            · rw [q5] at h5
              have hA := e_core_Admit (n := n) (d := d + 3) c t l[k] hs.toSmall (by have := (hm _ (List.getElem_mem hkl)).log; omega) hN (by omega)
              have hB := e_message_Between (n := n) (d := d + 8) l[k].kind
              have nm := fun k => e_num (n := n) (d := d + 8) k
              have key : admErr c t l[k] = 0 → admB c t l[k] = true → between l[k].kind = false := by
                intro e1 e2
                have hme : msgErr c l[k] = 0 := by unfold admErr at e1; rw [if_neg (by simp [ht])] at e1; exact e1
                have ho : overB t l[k] = true := by
                  unfold overB
                  have h6 := of_decide_eq_true q5
                  have h7 := hL.up l[k].node.toNat (by omega)
                  rw [cmp_neg] at h6
                  refine decide_eq_true ?_
                  rw [cmp_neg]
                  by_cases h8 : cmp (l[k].vector.getD l[k].node.toNat ⟨0, 0⟩) (t.vector.getD l[k].node.toNat ⟨0, 0⟩) < 0
                  · omega
                  · by_cases h9 : cmp (now.vector.getD l[k].node.toNat ⟨0, 0⟩) (t.vector.getD l[k].node.toNat ⟨0, 0⟩) = 0
                    · rw [cmp_zero h9] at h6; omega
                    · have := cmp_lt_trans (show cmp (l[k].vector.getD l[k].node.toNat ⟨0, 0⟩) (now.vector.getD l[k].node.toNat ⟨0, 0⟩) < 0 by omega) (show cmp (now.vector.getD l[k].node.toNat ⟨0, 0⟩) (t.vector.getD l[k].node.toNat ⟨0, 0⟩) < 0 by omega)
                      omega
                rcases admS_cases ht hme with ⟨_, h⟩ | ⟨_, _, _, _, _, h, _⟩
                · rcases h with ⟨h, _⟩ | ⟨_, ⟨_, h⟩ | ⟨_, ⟨h, _⟩ | ⟨_, _, h⟩⟩⟩
                  · exact h
                  · rw [h] at e2; cases e2
                  · rw [q0] at h; cases h
                  · rw [h] at e2; cases e2
                · rw [ho] at h; cases h
              generalize admS c t l[k] = A at hA
              generalize hEE : admErr c t l[k] = EE at *
              by_cases e1 : EE = 0
              · subst e1
                cases e2 : admB c t l[k]
                · rw [e2] at hA
                  simp (maxSteps := 2000000) [xf_law09_CoreKnows_b1, xf_law09_CoreKnows_k1, S_kio, hk, hk', hkl, hkl', hw, q1, q2, q2', q3, q4, h5, hA, nm]
                · rw [key rfl e2] at hB
                  rw [e2] at hA
                  simp (maxSteps := 2000000) [xf_law09_CoreKnows_b1, xf_law09_CoreKnows_k1, S_kio, hk, hk', hkl, hkl', hw, q1, q2, q2', q3, q4, h5, hA, hB, nm]
              · simp (maxSteps := 2000000) [xf_law09_CoreKnows_b1, xf_law09_CoreKnows_k1, S_kio, hk, hk', hkl, hkl', hw, q1, q2, q2', q3, q4, h5, hA, nm, e1]
          · simp (maxSteps := 2000000) [xf_law09_CoreKnows_b1, xf_law09_CoreKnows_k1, S_kio, hk, hk', hkl, hkl', hw, q1, q2, q2', q3, q4]
        · simp (maxSteps := 2000000) [xf_law09_CoreKnows_b1, xf_law09_CoreKnows_k1, S_kio, hk, hk', hkl, hkl', hw, q1, q2, q2', q3]
      · have q2' : ((l[k].vector.length : Int) = t.vector.length) = False := eq_false (by omega)
        simp (maxSteps := 2000000) [xf_law09_CoreKnows_b1, xf_law09_CoreKnows_k1, S_kio, hk, hk', hkl, hkl', hw, q1, q2, q2']
    · have q1 := eq_false q0
      simp (maxSteps := 2000000) [xf_law09_CoreKnows_b1, xf_law09_CoreKnows_k1, S_kio, hk, hk', hkl, hkl', hw, q1]
  · simp (maxSteps := 2000000) [xf_law09_CoreKnows_b1, S_kio]
end Go.Ax

namespace Go.Ax
set_option linter.all false
variable {n d : Nat}
set_option maxRecDepth 10000
set_option linter.unusedSimpArgs false
set_option maxHeartbeats 16000000

def S_kid (c : Cfg) (s now t : State) (l : List Msg) (i : Int) (k : Nat) : St := ⟨[(2, .dat (encMs l)), (3, .ptr 0 0), (4, .ptr 1 0), (7, .ptr 2 0), (8, .dat (di i)), (9, .ptr 3 0), (16, .dat (di k))], HD c s now ++ [boxS t]⟩
theorem l_kid (c : Cfg) (s now t : State) (l : List Msg) (i : Nat) (hi : i ≤ l.length) (hl : l.length ≤ 1048576) (hm : ∀ m ∈ l, SmallM m) (hnow : stateErr c now = 0) (ht : stateErr c t = 0) (hs : Small2 t) (hN : ∀ x ∈ t.vector, Nn x) (hL : Later now t) (hn : 2097157 < n) :
    loopAt (XCode.run (runFn T n (d + 9)) n 0 xf_law09_CoreKnows_b1) (headOf 0 xf_law09_CoreKnows_k1) n (S_kid c s now t l i 0) = some (.exit 2, ⟨[(2, .dat (encMs l)), (3, .ptr 0 0), (4, .ptr 1 0), (7, .ptr 2 0), (8, .dat (di i)), (9, .ptr 3 0)], HD c s now ++ [boxS t]⟩) := by
  refine loop_for (S_kid c s now t l i) i _ (fun k hk => nextK_some ?_) ?_ (fun s h => by simp at h) n (by omega)
  · have hkl : k < l.length := by omega
    have hkl' : (k : Int) < l.length := by omega
    have hk' : (k : Int) < i := by omega
    have hw := wrap_i k (by omega)
    have hlen := hL.len
    obtain ⟨_, g1, g2, g3, gc⟩ := nodes_ok ht
    have hf : 1 ≤ c.f ∧ c.f ≤ 3 := by unfold cfgOk at gc; omega
    simp only [NN] at g1 g3
    by_cases q0 : c.unguarded = false
    · have q1 := eq_true q0
      by_cases q2 : l[k].vector.length = t.vector.length
      · have q2' : ((l[k].vector.length : Int) = t.vector.length) = True := eq_true (by omega)
        by_cases q3 : 0 ≤ l[k].node
        · by_cases q4 : l[k].node < t.vector.length
          · have h5 := e_Over (n := n) (d := d + 6) now.vector l[k].vector l[k].node (by omega) (by omega) ⟨q3, by omega⟩
            cases q5 : decide (0 < cmp (now.vector.getD l[k].node.toNat ⟨0, 0⟩) (l[k].vector.getD l[k].node.toNat ⟨0, 0⟩))
            · rw [q5] at h5
              simp (maxSteps := 2000000) [xf_law09_CoreKnows_b1, xf_law09_CoreKnows_k1, S_kid, hk, hk', hkl, hkl', hw, q1, q2, q2', q3, q4, h5]
            · rw [q5] at h5
              have hA := e_core_Admit (n := n) (d := d + 3) c t l[k] hs.toSmall (by have := (hm _ (List.getElem_mem hkl)).log; omega) hN (by omega)
              have hB := e_message_Between (n := n) (d := d + 8) l[k].kind
              have nm := fun k => e_num (n := n) (d := d + 8) k
              have key : admErr c t l[k] = 0 → admB c t l[k] = true → between l[k].kind = false := by
                intro e1 e2
                have hme : msgErr c l[k] = 0 := by unfold admErr at e1; rw [if_neg (by simp [ht])] at e1; exact e1
                have ho : overB t l[k] = true := by
                  unfold overB
                  have h6 := of_decide_eq_true q5
                  have h7 := hL.up l[k].node.toNat (by omega)
                  rw [cmp_neg] at h6
                  refine decide_eq_true ?_
                  rw [cmp_neg]
                  by_cases h8 : cmp (l[k].vector.getD l[k].node.toNat ⟨0, 0⟩) (t.vector.getD l[k].node.toNat ⟨0, 0⟩) < 0
                  · omega
                  · by_cases h9 : cmp (now.vector.getD l[k].node.toNat ⟨0, 0⟩) (t.vector.getD l[k].node.toNat ⟨0, 0⟩) = 0
                    · rw [cmp_zero h9] at h6; omega
                    · have := cmp_lt_trans (show cmp (l[k].vector.getD l[k].node.toNat ⟨0, 0⟩) (now.vector.getD l[k].node.toNat ⟨0, 0⟩) < 0 by omega) (show cmp (now.vector.getD l[k].node.toNat ⟨0, 0⟩) (t.vector.getD l[k].node.toNat ⟨0, 0⟩) < 0 by omega)
                      omega
                rcases admS_cases ht hme with ⟨_, h⟩ | ⟨_, _, _, _, _, h, _⟩
                · rcases h with ⟨h, _⟩ | ⟨_, ⟨_, h⟩ | ⟨_, ⟨h, _⟩ | ⟨_, _, h⟩⟩⟩
                  · exact h
                  · rw [h] at e2; cases e2
                  · rw [q0] at h; cases h
                  · rw [h] at e2; cases e2
                · rw [ho] at h; cases h
              generalize admS c t l[k] = A at hA
              generalize hEE : admErr c t l[k] = EE at *
              by_cases e1 : EE = 0
              · subst e1
                cases e2 : admB c t l[k]
                · rw [e2] at hA
                  simp (maxSteps := 2000000) [xf_law09_CoreKnows_b1, xf_law09_CoreKnows_k1, S_kid, hk, hk', hkl, hkl', hw, q1, q2, q2', q3, q4, h5, hA, nm]
                · rw [key rfl e2] at hB
                  rw [e2] at hA
                  simp (maxSteps := 2000000) [xf_law09_CoreKnows_b1, xf_law09_CoreKnows_k1, S_kid, hk, hk', hkl, hkl', hw, q1, q2, q2', q3, q4, h5, hA, hB, nm]
              · simp (maxSteps := 2000000) [xf_law09_CoreKnows_b1, xf_law09_CoreKnows_k1, S_kid, hk, hk', hkl, hkl', hw, q1, q2, q2', q3, q4, h5, hA, nm, e1]
          · simp (maxSteps := 2000000) [xf_law09_CoreKnows_b1, xf_law09_CoreKnows_k1, S_kid, hk, hk', hkl, hkl', hw, q1, q2, q2', q3, q4]
        · simp (maxSteps := 2000000) [xf_law09_CoreKnows_b1, xf_law09_CoreKnows_k1, S_kid, hk, hk', hkl, hkl', hw, q1, q2, q2', q3]
      · have q2' : ((l[k].vector.length : Int) = t.vector.length) = False := eq_false (by omega)
        simp (maxSteps := 2000000) [xf_law09_CoreKnows_b1, xf_law09_CoreKnows_k1, S_kid, hk, hk', hkl, hkl', hw, q1, q2, q2']
    · have q1 := eq_false q0
      simp (maxSteps := 2000000) [xf_law09_CoreKnows_b1, xf_law09_CoreKnows_k1, S_kid, hk, hk', hkl, hkl', hw, q1]
  · simp (maxSteps := 2000000) [xf_law09_CoreKnows_b1, S_kid]
end Go.Ax

namespace Go.Ax
set_option linter.all false
variable {n d : Nat}
set_option maxRecDepth 10000
set_option linter.unusedSimpArgs false
set_option maxHeartbeats 16000000

/-- What stands in memory at a round's head: 0: the copy as it was made, 1: the copy, shown, 2: a later state. -/
def H_kn (c : Cfg) (s now : State) (f : Nat) : List Blk := if f = 2 then HD c s now else HO c s now (f == 1)
def S_kn (c : Cfg) (s : State) (l : List Msg) (i : Nat) (a : State × Nat) : St := ⟨[(2, .dat (encMs l)), (3, .ptr 0 0), (4, .ptr 1 0), (7, .ptr 2 0), (8, .dat (di i))], H_kn c s a.1 a.2⟩
def g_kn (c : Cfg) (a : State × Nat) (m : Msg) : State × Nat := if msgErr c m = 0 then (admS c a.1 m, 2) else (a.1, if a.2 = 2 then 2 else 1)
structure I_kn (c : Cfg) (s : State) (a : State × Nat) : Prop where
  ok : stateErr c a.1 = 0
  small : Small2 a.1
  later : Later s a.1
  nn : ∀ x ∈ a.1.vector, Nn x
  form : a.2 ≤ 2
theorem nn_mxv {a b : List Draw} (ha : ∀ x ∈ a, Nn x) (hb : ∀ x ∈ b, Nn x) : ∀ x ∈ mxv a b, Nn x := by
  intro x hx
  obtain ⟨k, hk, rfl⟩ := List.mem_iff_getElem.1 hx
  have h1 : k < a.length := by simp [mxv] at hk; omega
  have h2 : k < b.length := by simp [mxv] at hk; omega
  simp only [mxv, List.getElem_zipWith]
  unfold mxd
  split
  · exact hb _ (List.getElem_mem h2)
  · exact ha _ (List.getElem_mem h1)
theorem adm_nn {c : Cfg} {s : State} {m : Msg} (h : stateErr c s = 0) (hm : msgErr c m = 0) (ha : ∀ x ∈ s.vector, Nn x) (hb : ∀ x ∈ m.vector, Nn x) : ∀ x ∈ (admS c s m).vector, Nn x := by
  rcases admS_cases h hm with ⟨e, _⟩ | ⟨e, _⟩
  · rw [e]; exact ha
  · rw [e]; exact nn_mxv ha hb
theorem step_kn {c : Cfg} {s : State} {a : State × Nat} {m : Msg} (h : I_kn c s a) (hm : ∀ x ∈ m.vector, Nn x) : I_kn c s (g_kn c a m) := by
  unfold g_kn
  split
  · rename_i he
    exact ⟨admS_ok h.ok he, h.small.adm h.ok he, h.later.trans (adm_later h.ok he), adm_nn h.ok he h.nn hm, Nat.le_refl _⟩
  · exact ⟨h.ok, h.small, h.later, h.nn, by simp only; split <;> omega⟩
end Go.Ax

namespace Go.Ax
set_option linter.all false
variable {n d : Nat}
set_option maxRecDepth 10000
set_option linter.unusedSimpArgs false
set_option maxHeartbeats 16000000

theorem r_kn0 (c : Cfg) (s : State) (l : List Msg) (i : Nat) (hi : i < l.length) (now : State) (hI : I_kn c s (now, 0)) (hs : Small2 s) (hl : l.length ≤ 1048576) (hm : ∀ m ∈ l, SmallM m ∧ ∀ x ∈ m.vector, Nn x) (hn : 2097157 < n) :
    nextK (headOf 0 xf_law09_CoreKnows_k0) (XCode.run (runFn T n (d + 9)) n 0 xf_law09_CoreKnows_b0 (S_kn c s l i (now, 0))) = some (S_kn c s l (i + 1) (g_kn c (now, 0) l[i])) := by
  have hi' : (i : Int) < l.length := by omega
  have hw := wrap_i i (by omega)
  obtain ⟨hmi, hmn⟩ := hm _ (List.getElem_mem hi)
  have hlog := hmi.log
  have hok : stateErr c now = 0 := hI.ok
  have hsm : Small2 now := hI.small
  have hlt : Later s now := hI.later
  have hnn : ∀ x ∈ now.vector, Nn x := hI.nn
  have nm := fun k => e_num (n := n) (d := d + 8) k
  have o1 := e_core_Admit (n := n) (d := d + 3) c now l[i] hsm.toSmall (by omega) hnn (by omega)
  have hE : admErr c now l[i] = msgErr c l[i] := by unfold admErr; rw [if_neg (by simp [hok])]
  rw [hE] at o1
  unfold g_kn
  by_cases hme : msgErr c l[i] = 0
  · rw [if_pos hme]
    have o2 := e_core_Admit (n := n) (d := d + 3) c (admS c now l[i]) l[i] (hsm.adm hok hme).toSmall (by omega) (adm_nn hok hme hnn hmn) (by omega)
    obtain ⟨ag1, ag2⟩ := adm_again hok hme
    have hok2 := admS_ok hok hme
    have hE2 : admErr c (admS c now l[i]) l[i] = 0 := by unfold admErr; rw [if_neg (by simp [hok2]), hme]
    rw [ag1, ag2, hE2] at o2
    rw [hme] at o1
    have hl2 := adm_later hok hme
    have hnot : admB c now l[i] = false → admS c now l[i] = now := by
      intro hb
      rcases admS_cases hok hme with ⟨e, _⟩ | ⟨_, e, _⟩
      · exact e
      · rw [hb] at e; cases e
    obtain ⟨_, g1, g2, g3, gc⟩ := nodes_ok hok
    have hf : 1 ≤ c.f ∧ c.f ≤ 3 := by unfold cfgOk at gc; omega
    simp only [NN] at g1 g3
    obtain ⟨r, hr, o3⟩ := e_Compare_up (n := n) (d := d + 7) now.vector (admS c now l[i]).vector hl2.len (by omega) hl2.up (by omega)
    have hall := hlt.trans hl2
    have o4 := e_plain_SameState (n := n) (d := d + 6) (admS c now l[i]) (hsm.adm hok hme).toSmall (by omega)
    have o5 := eq_plain_SameEntries (n := n) (d := d + 8) (admS c now l[i]).log s.log (hsm.adm hok hme).log (by omega)
    rw [decide_eq_true (show (admS c now l[i]).log = s.log from (hlt.trans hl2).log)] at o5
    have o6 := l_kio (n := n) (d := d) c s now (admS c now l[i]) l i (by omega) hl (fun m h => (hm m h).1) hok hok2 (hsm.adm hok hme) (adm_nn hok hme hnn hmn) hl2 hn
    have e1 := hall.self
    have e2 : (admS c now l[i]).view = s.view := hall.view
    have e3 : (admS c now l[i]).commit = s.commit := hall.commit
    have e4 : (admS c now l[i]).status = s.status := hall.status
    have e5 : (admS c now l[i]).log = s.log := hall.log
    have e6 := hall.len
    have e7 := hall.own
    have hself : now.self = s.self := hlt.self
    have hvl : now.vector.length = s.vector.length := hlt.len
    have v1 : s.self.toNat < s.vector.length := by omega
    have v2 : s.self.toNat < (admS c now l[i]).vector.length := by omega
    have v3 : s.self < s.vector.length := by omega
    have v4 : s.self < (admS c now l[i]).vector.length := by omega
    have v5 : 0 ≤ s.self := by omega
    have e8 : (admS c now l[i]).vector[s.self.toNat] = s.vector[s.self.toNat] := by simpa [List.getD, v1, v2] using e7
    generalize admB c now l[i] = B at *
    generalize admS c now l[i] = t at *
    have e2' := eq_true e2
    have e3' := eq_true e3
    have e4' := eq_true e4
    simp only [S_kio, xf_law09_CoreKnows_k1] at o6
    simp at o6
    cases hB : B
    · have ht := hnot hB
      subst ht
      rw [hB] at o1 o2
      rcases hr with hr | hr <;> subst hr <;>
        simp (maxSteps := 2000000) [xf_law09_CoreKnows_b0, xf_law09_CoreKnows_k0, xf_law09_CoreKnows_k1, S_kn, H_kn, hi, hi', hw, nm, o1, o2, o3, o4, o5, o6, e2', e3', e4', e8, v1, v2, v3, v4, v5]
    · rw [hB] at o1 o2
      rcases hr with hr | hr <;> subst hr <;>
        simp (maxSteps := 2000000) [xf_law09_CoreKnows_b0, xf_law09_CoreKnows_k0, xf_law09_CoreKnows_k1, S_kn, H_kn, hi, hi', hw, nm, o1, o2, o3, o4, o5, o6, e2', e3', e4', e8, v1, v2, v3, v4, v5]
  · rw [if_neg hme]
    have o3 := e_ref07_Check (n := n) (d := d + 4) c l[i] (by omega) (by omega)
    generalize admS c now l[i] = t at *
    generalize admB c now l[i] = B at *
    generalize hEE : msgErr c l[i] = EE at *
    simp (maxSteps := 2000000) [xf_law09_CoreKnows_b0, xf_law09_CoreKnows_k0, S_kn, H_kn, hi, hi', hw, nm, o1, o3, hme]
end Go.Ax

namespace Go.Ax
set_option linter.all false
variable {n d : Nat}
set_option maxRecDepth 10000
set_option linter.unusedSimpArgs false
set_option maxHeartbeats 16000000

theorem r_kn1 (c : Cfg) (s : State) (l : List Msg) (i : Nat) (hi : i < l.length) (now : State) (hI : I_kn c s (now, 1)) (hs : Small2 s) (hl : l.length ≤ 1048576) (hm : ∀ m ∈ l, SmallM m ∧ ∀ x ∈ m.vector, Nn x) (hn : 2097157 < n) :
    nextK (headOf 0 xf_law09_CoreKnows_k0) (XCode.run (runFn T n (d + 9)) n 0 xf_law09_CoreKnows_b0 (S_kn c s l i (now, 1))) = some (S_kn c s l (i + 1) (g_kn c (now, 1) l[i])) := by
  have hi' : (i : Int) < l.length := by omega
  have hw := wrap_i i (by omega)
  obtain ⟨hmi, hmn⟩ := hm _ (List.getElem_mem hi)
  have hlog := hmi.log
  have hok : stateErr c now = 0 := hI.ok
  have hsm : Small2 now := hI.small
  have hlt : Later s now := hI.later
  have hnn : ∀ x ∈ now.vector, Nn x := hI.nn
  have nm := fun k => e_num (n := n) (d := d + 8) k
  have o1 := e_core_Admit (n := n) (d := d + 3) c now l[i] hsm.toSmall (by omega) hnn (by omega)
  have hE : admErr c now l[i] = msgErr c l[i] := by unfold admErr; rw [if_neg (by simp [hok])]
  rw [hE] at o1
  unfold g_kn
  by_cases hme : msgErr c l[i] = 0
  · rw [if_pos hme]
    have o2 := e_core_Admit (n := n) (d := d + 3) c (admS c now l[i]) l[i] (hsm.adm hok hme).toSmall (by omega) (adm_nn hok hme hnn hmn) (by omega)
    obtain ⟨ag1, ag2⟩ := adm_again hok hme
    have hok2 := admS_ok hok hme
    have hE2 : admErr c (admS c now l[i]) l[i] = 0 := by unfold admErr; rw [if_neg (by simp [hok2]), hme]
    rw [ag1, ag2, hE2] at o2
    rw [hme] at o1
    have hl2 := adm_later hok hme
    have hnot : admB c now l[i] = false → admS c now l[i] = now := by
      intro hb
      rcases admS_cases hok hme with ⟨e, _⟩ | ⟨_, e, _⟩
      · exact e
      · rw [hb] at e; cases e
    obtain ⟨_, g1, g2, g3, gc⟩ := nodes_ok hok
    have hf : 1 ≤ c.f ∧ c.f ≤ 3 := by unfold cfgOk at gc; omega
    simp only [NN] at g1 g3
    obtain ⟨r, hr, o3⟩ := e_Compare_up (n := n) (d := d + 7) now.vector (admS c now l[i]).vector hl2.len (by omega) hl2.up (by omega)
    have hall := hlt.trans hl2
    have o4 := e_plain_SameState (n := n) (d := d + 6) (admS c now l[i]) (hsm.adm hok hme).toSmall (by omega)
    have o5 := eq_plain_SameEntries (n := n) (d := d + 8) (admS c now l[i]).log s.log (hsm.adm hok hme).log (by omega)
    rw [decide_eq_true (show (admS c now l[i]).log = s.log from (hlt.trans hl2).log)] at o5
    have o6 := l_kio (n := n) (d := d) c s now (admS c now l[i]) l i (by omega) hl (fun m h => (hm m h).1) hok hok2 (hsm.adm hok hme) (adm_nn hok hme hnn hmn) hl2 hn
    have e1 := hall.self
    have e2 : (admS c now l[i]).view = s.view := hall.view
    have e3 : (admS c now l[i]).commit = s.commit := hall.commit
    have e4 : (admS c now l[i]).status = s.status := hall.status
    have e5 : (admS c now l[i]).log = s.log := hall.log
    have e6 := hall.len
    have e7 := hall.own
    have hself : now.self = s.self := hlt.self
    have hvl : now.vector.length = s.vector.length := hlt.len
    have v1 : s.self.toNat < s.vector.length := by omega
    have v2 : s.self.toNat < (admS c now l[i]).vector.length := by omega
    have v3 : s.self < s.vector.length := by omega
    have v4 : s.self < (admS c now l[i]).vector.length := by omega
    have v5 : 0 ≤ s.self := by omega
    have e8 : (admS c now l[i]).vector[s.self.toNat] = s.vector[s.self.toNat] := by simpa [List.getD, v1, v2] using e7
    generalize admB c now l[i] = B at *
    generalize admS c now l[i] = t at *
    have e2' := eq_true e2
    have e3' := eq_true e3
    have e4' := eq_true e4
    simp only [S_kio, xf_law09_CoreKnows_k1] at o6
    simp at o6
    cases hB : B
    · have ht := hnot hB
      subst ht
      rw [hB] at o1 o2
      rcases hr with hr | hr <;> subst hr <;>
        simp (maxSteps := 2000000) [xf_law09_CoreKnows_b0, xf_law09_CoreKnows_k0, xf_law09_CoreKnows_k1, S_kn, H_kn, hi, hi', hw, nm, o1, o2, o3, o4, o5, o6, e2', e3', e4', e8, v1, v2, v3, v4, v5]
    · rw [hB] at o1 o2
      rcases hr with hr | hr <;> subst hr <;>
        simp (maxSteps := 2000000) [xf_law09_CoreKnows_b0, xf_law09_CoreKnows_k0, xf_law09_CoreKnows_k1, S_kn, H_kn, hi, hi', hw, nm, o1, o2, o3, o4, o5, o6, e2', e3', e4', e8, v1, v2, v3, v4, v5]
  · rw [if_neg hme]
    have o3 := e_ref07_Check (n := n) (d := d + 4) c l[i] (by omega) (by omega)
    generalize admS c now l[i] = t at *
    generalize admB c now l[i] = B at *
    generalize hEE : msgErr c l[i] = EE at *
    simp (maxSteps := 2000000) [xf_law09_CoreKnows_b0, xf_law09_CoreKnows_k0, S_kn, H_kn, hi, hi', hw, nm, o1, o3, hme]
end Go.Ax

namespace Go.Ax
set_option linter.all false
variable {n d : Nat}
set_option maxRecDepth 10000
set_option linter.unusedSimpArgs false
set_option maxHeartbeats 16000000

theorem r_kn2 (c : Cfg) (s : State) (l : List Msg) (i : Nat) (hi : i < l.length) (now : State) (hI : I_kn c s (now, 2)) (hs : Small2 s) (hl : l.length ≤ 1048576) (hm : ∀ m ∈ l, SmallM m ∧ ∀ x ∈ m.vector, Nn x) (hn : 2097157 < n) :
    nextK (headOf 0 xf_law09_CoreKnows_k0) (XCode.run (runFn T n (d + 9)) n 0 xf_law09_CoreKnows_b0 (S_kn c s l i (now, 2))) = some (S_kn c s l (i + 1) (g_kn c (now, 2) l[i])) := by
  have hi' : (i : Int) < l.length := by omega
  have hw := wrap_i i (by omega)
  obtain ⟨hmi, hmn⟩ := hm _ (List.getElem_mem hi)
  have hlog := hmi.log
  have hok : stateErr c now = 0 := hI.ok
  have hsm : Small2 now := hI.small
  have hlt : Later s now := hI.later
  have hnn : ∀ x ∈ now.vector, Nn x := hI.nn
  have nm := fun k => e_num (n := n) (d := d + 8) k
  have o1 := e_core_Admit (n := n) (d := d + 3) c now l[i] hsm.toSmall (by omega) hnn (by omega)
  have hE : admErr c now l[i] = msgErr c l[i] := by unfold admErr; rw [if_neg (by simp [hok])]
  rw [hE] at o1
  unfold g_kn
  by_cases hme : msgErr c l[i] = 0
  · rw [if_pos hme]
    have o2 := e_core_Admit (n := n) (d := d + 3) c (admS c now l[i]) l[i] (hsm.adm hok hme).toSmall (by omega) (adm_nn hok hme hnn hmn) (by omega)
    obtain ⟨ag1, ag2⟩ := adm_again hok hme
    have hok2 := admS_ok hok hme
    have hE2 : admErr c (admS c now l[i]) l[i] = 0 := by unfold admErr; rw [if_neg (by simp [hok2]), hme]
    rw [ag1, ag2, hE2] at o2
    rw [hme] at o1
    have hl2 := adm_later hok hme
    have hnot : admB c now l[i] = false → admS c now l[i] = now := by
      intro hb
      rcases admS_cases hok hme with ⟨e, _⟩ | ⟨_, e, _⟩
      · exact e
      · rw [hb] at e; cases e
    obtain ⟨_, g1, g2, g3, gc⟩ := nodes_ok hok
    have hf : 1 ≤ c.f ∧ c.f ≤ 3 := by unfold cfgOk at gc; omega
    simp only [NN] at g1 g3
    obtain ⟨r, hr, o3⟩ := e_Compare_up (n := n) (d := d + 7) now.vector (admS c now l[i]).vector hl2.len (by omega) hl2.up (by omega)
    have hall := hlt.trans hl2
    have o4 := e_plain_SameState (n := n) (d := d + 6) (admS c now l[i]) (hsm.adm hok hme).toSmall (by omega)
    have o5 := eq_plain_SameEntries (n := n) (d := d + 8) (admS c now l[i]).log s.log (hsm.adm hok hme).log (by omega)
    rw [decide_eq_true (show (admS c now l[i]).log = s.log from (hlt.trans hl2).log)] at o5
    have o6 := l_kid (n := n) (d := d) c s now (admS c now l[i]) l i (by omega) hl (fun m h => (hm m h).1) hok hok2 (hsm.adm hok hme) (adm_nn hok hme hnn hmn) hl2 hn
    have e1 := hall.self
    have e2 : (admS c now l[i]).view = s.view := hall.view
    have e3 : (admS c now l[i]).commit = s.commit := hall.commit
    have e4 : (admS c now l[i]).status = s.status := hall.status
    have e5 : (admS c now l[i]).log = s.log := hall.log
    have e6 := hall.len
    have e7 := hall.own
    have hself : now.self = s.self := hlt.self
    have hvl : now.vector.length = s.vector.length := hlt.len
    have v1 : s.self.toNat < s.vector.length := by omega
    have v2 : s.self.toNat < (admS c now l[i]).vector.length := by omega
    have v3 : s.self < s.vector.length := by omega
    have v4 : s.self < (admS c now l[i]).vector.length := by omega
    have v5 : 0 ≤ s.self := by omega
    have e8 : (admS c now l[i]).vector[s.self.toNat] = s.vector[s.self.toNat] := by simpa [List.getD, v1, v2] using e7
    generalize admB c now l[i] = B at *
    generalize admS c now l[i] = t at *
    have e2' := eq_true e2
    have e3' := eq_true e3
    have e4' := eq_true e4
    simp only [S_kid, xf_law09_CoreKnows_k1] at o6
    simp at o6
    cases hB : B
    · have ht := hnot hB
      subst ht
      rw [hB] at o1 o2
      rcases hr with hr | hr <;> subst hr <;>
        simp (maxSteps := 2000000) [xf_law09_CoreKnows_b0, xf_law09_CoreKnows_k0, xf_law09_CoreKnows_k1, S_kn, H_kn, hi, hi', hw, nm, o1, o2, o3, o4, o5, o6, e2', e3', e4', e8, v1, v2, v3, v4, v5]
    · rw [hB] at o1 o2
      rcases hr with hr | hr <;> subst hr <;>
        simp (maxSteps := 2000000) [xf_law09_CoreKnows_b0, xf_law09_CoreKnows_k0, xf_law09_CoreKnows_k1, S_kn, H_kn, hi, hi', hw, nm, o1, o2, o3, o4, o5, o6, e2', e3', e4', e8, v1, v2, v3, v4, v5]
  · rw [if_neg hme]
    have o3 := e_ref07_Check (n := n) (d := d + 4) c l[i] (by omega) (by omega)
    generalize admS c now l[i] = t at *
    generalize admB c now l[i] = B at *
    generalize hEE : msgErr c l[i] = EE at *
    simp (maxSteps := 2000000) [xf_law09_CoreKnows_b0, xf_law09_CoreKnows_k0, S_kn, H_kn, hi, hi', hw, nm, o1, o3, hme]
end Go.Ax

namespace Go.Ax
set_option linter.all false
variable {n d : Nat}
set_option maxRecDepth 10000
set_option linter.unusedSimpArgs false
set_option maxHeartbeats 16000000

theorem law_CoreKnows (c : Cfg) (s : State) (l : List Msg) (hs : Small2 s) (hN : ∀ x ∈ s.vector, Nn x) (hl : l.length ≤ 1048576) (hm : ∀ m ∈ l, SmallM m ∧ ∀ x ∈ m.vector, Nn x) (hn : 2097157 < n) : ∃ H, runFn T n (d + 10) 6 [.dat (encCfg c), .dat (encS s), .dat (encMs l)] [] = some (.dat (.bool true), H) := by
  have al := e_alive (n := n) (d := d + 1) (by omega)
  have o1 := e_core_Check (n := n) (d := d + 4) c s hs.toSmall (by omega)
  have o2 := e_ref09_Check (n := n) (d := d + 2) c s hs.toSmall (by omega)
  have cp := e_plain_CopyState (n := n) (d := d + 7) s hs.toSmall (by omega)
  have n1 := e_num (n := n) (d := d + 8) (stateErr c s)
  rw [runFn_succ]
  by_cases he : stateErr c s = 0
  · rw [he] at o1 o2 n1
    have main := loop_fold (body := XCode.run (runFn T n (d + 9)) n 0 xf_law09_CoreKnows_b0) (head := headOf 0 xf_law09_CoreKnows_k0) (S_kn c s l) (fun _ a => I_kn c s a) l (g_kn c) (fun a => (.exit 0, ⟨[], H_kn c s a.1 a.2⟩)) (s, 0) ⟨he, hs, .refl s, hN, by simp⟩
      (fun i a hi hI => ⟨step_kn hI (hm _ (List.getElem_mem hi)).2, nextK_some ?_⟩) (fun a hI => ?_) (fun a s h => by cases h) n (by omega)
    · generalize List.foldl (g_kn c) (s, 0) l = Z at main
      simp [S_kn, H_kn, xf_law09_CoreKnows_k0] at main
      simp [T, xf_law09_CoreKnows, xf_law09_CoreKnows_k0, al, o1, o2, n1, cp, main]
    · obtain ⟨now, f⟩ := a
      have hf := hI.form
      simp only at hf
      have : f = 0 ∨ f = 1 ∨ f = 2 := by omega
      rcases this with e | e | e <;> subst e
      · exact r_kn0 (n := n) (d := d) c s l i hi now hI hs hl hm hn
      · exact r_kn1 (n := n) (d := d) c s l i hi now hI hs hl hm hn
      · exact r_kn2 (n := n) (d := d) c s l i hi now hI hs hl hm hn
    · simp [xf_law09_CoreKnows_b0, S_kn]
  · generalize hSE : stateErr c s = SE at *
    simp [T, xf_law09_CoreKnows, al, o1, o2, n1, he]
end Go.Ax
