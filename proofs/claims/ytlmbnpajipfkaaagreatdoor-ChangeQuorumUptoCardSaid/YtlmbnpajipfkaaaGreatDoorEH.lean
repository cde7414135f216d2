/-
  The document's rows between two places.
-/
import Derived.Test.YtlmbnpajipfkaaaGreatDoorEF
import Derived.Test.YtlmbnpajipfkaaaGreatDoorED
namespace Go.Ax
set_option linter.all false
variable {n d : Nat}
set_option maxRecDepth 10000
set_option maxHeartbeats 4000000
theorem rows_grow : ∀ (q : List Ent) (a : Led), ∃ Z, (q.foldl stepR a).rows = a.rows ++ Z
 | [], a => ⟨[], by simp⟩
 | e :: q, a => by
  obtain ⟨Z, h⟩ := rows_grow q (stepR a e)
  exact ⟨_ :: Z, by rw [List.foldl_cons, h]; simp only [stepR, List.append_assoc, List.cons_append, List.nil_append]; rfl⟩
theorem rows_split : ∀ (q : List Ent) (a : Led) (X Y : List Row) (v : Row), (q.foldl stepR a).rows = X ++ v :: Y → a.rows.length ≤ X.length →
  ∃ A e B, q = A ++ e :: B ∧ a.rows.length + A.length = X.length ∧ v = ⟨e.client, e.number, X.length + 1, true, v.result⟩
 | [], a, X, Y, v, h, hl => by
  have := congrArg List.length h
  simp at this
  omega
 | e :: q, a, X, Y, v, h, hl => by
  by_cases hx : a.rows.length = X.length
  ·obtain ⟨Z, hZ⟩ := rows_grow q (stepR a e)
   rw [List.foldl_cons, hZ] at h
   simp only [stepR, List.append_assoc, List.cons_append, List.nil_append] at h
   obtain ⟨h1, h2⟩ := List.append_inj h hx
   simp only [List.cons.injEq] at h2
   refine ⟨[], e, q, rfl, by simpa using hx, ?_⟩
   rw [← h2.1, ← hx]
  ·obtain ⟨A, e', B, h1, h2, h3⟩ := rows_split q (stepR a e) X Y v h (by simp [stepR]; omega)
   refine ⟨e :: A, e', B, by rw [h1]; rfl, ?_, h3⟩
   simp [stepR] at h2
   simp only [List.length_cons]
   omega
end Go.Ax
namespace Go.Ax
set_option linter.all false
variable {n d : Nat}
set_option maxRecDepth 10000
set_option linter.unusedSimpArgs false
set_option maxHeartbeats 4000000
def replyOf (s : State) (r : Row) : Send := ⟨7 + r.client, { zeroM with kind := 2, node := s.self, view := s.view, entry := ⟨r.client, r.number, ⟨0, 0, ByteArray.empty⟩⟩, result := r.result, place := r.place }⟩
def carryErr (c : Cfg) (s : State) (to : Int) : Int := if stateErr c s ≠ 0 then stateErr c s else if to < 0 ∨ (s.log.length : Int) < to then 3 else 0
def carryS (c : Cfg) (s : State) (to : Int) : State := if carryErr c s to ≠ 0 then zeroS else if to ≤ s.commit then s else { s with commit := to }
def carryR (s : State) (to : Int) : List Row := (ledS (s.log.take to.toNat)).rows.drop s.commit.toNat
def carryL (c : Cfg) (s : State) (to : Int) : List Send := if carryErr c s to ≠ 0 then [] else if to ≤ s.commit then [] else if s.status = 1 then (if leads c s then (carryR s to).map (replyOf s) else []) else []
theorem log_facts {c : Cfg} {s : State} (h : stateErr c s = 0) : s.log.length ≤ 256 ∧ logErr1 [] s.log = 0 ∧ 0 ≤ s.commit ∧ s.commit ≤ s.log.length := by
 obtain ⟨_, _, hl⟩ := ok_of_err h
 unfold logOk at hl
 simp only [Bool.and_eq_true, decide_eq_true_eq] at hl
 obtain ⟨⟨h1, h2⟩, h3⟩ := hl
 unfold logErr at h1
 split at h1
 ·cases h1
 ·split at h1
  ·cases h1
  ·exact ⟨by omega, h1, h2, h3⟩
theorem carry_rows {s : State} {to : Int} (hl : s.log.length ≤ 256) (h : logErr1 [] s.log = 0) (h0 : 0 ≤ to ∧ to ≤ s.log.length) : (carryR s to).length ≤ 256 ∧ ∀ x ∈ carryR s to, 0 ≤ x.client ∧ x.client < 16 := by
 have hqr : s.log.take to.toNat ++ s.log.drop to.toNat = s.log := List.take_append_drop _ _
 rw [← hqr] at h
 have ho := (ledS_ok _ _ [] h).rows
 unfold carryR
 refine ⟨by rw [List.length_drop, ho]; simp; omega, fun x hx => ?_⟩
 obtain ⟨X, Y, hXY⟩ := List.append_of_mem hx
 have hX : (ledS (s.log.take to.toNat)).rows = ((ledS (s.log.take to.toNat)).rows.take s.commit.toNat ++ X) ++ x :: Y := by rw [List.append_assoc, ← hXY, List.take_append_drop]
 obtain ⟨A, e, B, a1, a2, a3⟩ := rows_split (s.log.take to.toNat) ⟨[], [], 0⟩ _ Y x hX (Nat.zero_le _)
 rw [a1] at h
 have he := ent_ok (entErr_of_log A (B ++ s.log.drop to.toNat) [] e (by simpa using h))
 rw [a3]
 exact ⟨he.1, he.2.1⟩
abbrev arrSd (l : List Send) : Blk := .arr 62 19 false false (l.map encSd)
def S_car (s t : State) (R p : List Row) : St := ⟨[(4, .ptr 0 0), (6, .ptr 1 0), (10, .ptr 2 0), (11, .own 3 0 p.length), (63, .dat (encRows R)), (64, .dat (di R.length)), (65, .dat (di p.length))], [boxS s, boxZ, boxS t, arrSd (p.map (replyOf s))]⟩
theorem l_core_Carry (cf : CallF) (s t : State) (R : List Row) (hR : R.length ≤ 256 ∧ ∀ x ∈ R, 0 ≤ x.client ∧ x.client < 16) (hn : 1048577 < n) : loopAt (XCode.run cf n 0 xf_core_Carry_b0) (headOf 0 xf_core_Carry_k0) n (S_car s t R []) = some (.exit 0, ⟨[(6, .ptr 1 0), (10, .ptr 2 0), (11, .own 3 0 R.length)], [boxS s, boxZ, boxS t, arrSd (R.map (replyOf s))]⟩) := by
 refine loop_pre (S_car s t R) R (.exit 0, ⟨[(6, .ptr 1 0), (10, .ptr 2 0), (11, .own 3 0 R.length)], [boxS s, boxZ, boxS t, arrSd (R.map (replyOf s))]⟩) (fun p v r hl' => ?_) ?_ (fun s h => by simp at h) n (by omega)
 ·have hx : (p.length : Int) < p.length + (r.length + 1) := by omega
  have hp : p.length ≤ 256 := by have : R.length = p.length + (r.length + 1) := (by simp [hl']); omega
  have hw := wrap_i p.length (by omega)
  have hL : p.length + 1 ≤ LIM := by simp only [LIM]; omega
  have hv := hR.2 v (by rw [hl']; simp)
  have hw2 := wrap_small (x := 7 + v.client) (by omega)
  have hz : ({ data := #[] } : ByteArray) = ByteArray.empty := rfl
  simp at hw
  simp [xf_core_Carry_b0, xf_core_Carry_k0, S_car, hl', hx, hw, hw2, hL, replyOf, zeroM, hz]
 ·simp [xf_core_Carry_b0, S_car]
end Go.Ax
namespace Go.Ax
set_option linter.all false
variable {n d : Nat}
set_option maxRecDepth 10000
set_option linter.unusedSimpArgs false
set_option maxHeartbeats 4000000
theorem btw_c (s : State) (to : Int) (hl : s.log.length ≤ 256) (h : logErr1 [] s.log = 0) (h0 : 0 ≤ s.commit ∧ s.commit < to ∧ to ≤ s.log.length) (hn : 1048577 < n) : runFn T n (d + 5) 46 [.dat (encLog s.log), .dat (di s.commit), .dat (di to)] [] = some (.tup [.dat (encRows (carryR s to)), .dat (di 0)], []) := by
 have hqr : s.log.take to.toNat ++ s.log.drop to.toNat = s.log := List.take_append_drop _ _
 have hq : (s.log.take to.toNat).length = to.toNat := by simp; omega
 have := e_client_Between (n := n) (d := d) (s.log.take to.toNat) (s.log.drop to.toNat) s.commit.toNat (by omega) (by rw [hqr]; exact hl) (by rw [hqr]; exact h) hn
 rw [hqr, hq] at this
 rw [show ((s.commit.toNat : Nat) : Int) = s.commit by omega, show ((to.toNat : Nat) : Int) = to by omega] at this
 exact this
theorem e_core_Carry (c : Cfg) (s : State) (to : Int) (hs : Small s) (hn : 1048577 < n) : runFn T n (d + 6) 26 [.dat (encCfg c), .dat (encS s), .dat (di to)] [] = some (.tup [.dat (encS (carryS c s to)), .dat (encSds (carryL c s to)), .dat (di (carryErr c s to))], []) := by
 have h1 := e_core_Check (n := n) (d := d) c s hs hn
 have h2 := e_core_twin (n := n) (d := d + 3) s hs hn
 rw [runFn_succ]
 unfold carryS carryL
 by_cases he : stateErr c s = 0
 ·obtain ⟨hc, hh, _⟩ := ok_of_err he
  obtain ⟨f1, f2, f3, f4⟩ := log_facts he
  have h3 := e_core_leads (n := n) (d := d + 4) c s hc
  unfold carryErr
  rw [he] at h1 ⊢
  simp only [ne_eq, not_true_eq_false, if_false]
  by_cases q1 : to < 0
  ·have q3 : to < 0 ∨ (s.log.length : Int) < to := .inl q1
   simp only [if_pos q3]
   simp [T, xf_core_Carry, h1, q1, zeroS]
  ·by_cases q2 : (s.log.length : Int) < to
   ·have q3 : to < 0 ∨ (s.log.length : Int) < to := .inr q2
    simp only [if_pos q3]
    simp [T, xf_core_Carry, h1, q1, q2, zeroS]
   ·have q3 : ¬ (to < 0 ∨ (s.log.length : Int) < to) := by omega
    simp only [if_neg q3]
    by_cases q4 : to ≤ s.commit
    ·simp [T, xf_core_Carry, h1, h2, q1, q2, q4]
    ·by_cases s1 : s.status = 1
     ·have s1' := eq_true s1
      cases hl : leads c s
      ·rw [hl] at h3
       simp [T, xf_core_Carry, h1, h2, h3, q1, q2, q4, s1']
      ·rw [hl] at h3
       have h4 := btw_c (n := n) (d := d) s to f1 f2 (by omega) hn
       have hR := carry_rows (s := s) f1 f2 (show 0 ≤ to ∧ to ≤ s.log.length by omega)
       have h5 := l_core_Carry (n := n) (runFn T n (d + 5)) s { s with commit := to } (carryR s to) hR hn
       have hL : (carryR s to).length ≤ LIM := by simp only [LIM]; omega
       generalize carryR s to = R at *
       simp [S_car, xf_core_Carry_k0, boxS, boxZ, arrSd] at h5
       simp [T, xf_core_Carry, xf_core_Carry_k0, h1, h2, h3, h4, h5, q1, q2, q4, s1']
     ·have s1' := eq_false s1
      simp [T, xf_core_Carry, h1, h2, h3, q1, q2, q4, s1']
 ·have : carryErr c s to = stateErr c s := by simp [carryErr, he]
  rw [this]
  simp [T, xf_core_Carry, h1, he, zeroS]
end Go.Ax
namespace Go.Ax
set_option linter.all false
variable {n d : Nat}
set_option maxRecDepth 10000
set_option linter.unusedSimpArgs false
set_option maxHeartbeats 4000000
theorem carryL_small (c : Cfg) (s : State) (to : Int) : (carryL c s to).length ≤ 1048577 ∧ ∀ x ∈ carryL c s to, SmallM x.msg := by
 unfold carryL
 split
 ·simp
 ·rename_i he
  split
  ·simp
  ·split
   ·split
    ·have hz : carryErr c s to = 0 := by omega
     unfold carryErr at hz
     have h0 : stateErr c s = 0 := by
      by_cases h0 : stateErr c s = 0
      ·exact h0
      ·rw [if_pos h0] at hz; exact absurd hz h0
     rw [if_neg (by simp [h0])] at hz
     obtain ⟨f1, f2, f3, f4⟩ := log_facts h0
     have hto : 0 ≤ to ∧ to ≤ s.log.length := by
      by_cases hq : to < 0 ∨ (s.log.length : Int) < to
      ·rw [if_pos hq] at hz; cases hz
      ·omega
     have hR := carry_rows (s := s) f1 f2 hto
     refine ⟨by rw [List.length_map]; omega, fun x hx => ?_⟩
     obtain ⟨r, _, rfl⟩ := List.mem_map.1 hx
     exact ⟨by simp [replyOf, zeroM], by simp [replyOf, zeroM]⟩
    ·simp
   ·simp
end Go.Ax
