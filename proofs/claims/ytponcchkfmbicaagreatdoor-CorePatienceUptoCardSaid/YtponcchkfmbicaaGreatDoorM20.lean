/-
  CorePatience, evaluated.
-/
import Derived.Test.YtponcchkfmbicaaGreatDoorS1
import Derived.Test.YtponcchkfmbicaaGreatDoorMF
import Derived.Test.YtponcchkfmbicaaGreatDoorM18
namespace Go.Ax
set_option linter.all false
variable {n d : Nat}
set_option maxRecDepth 10000
set_option linter.unusedSimpArgs false
set_option maxHeartbeats 4000000

def idleAt (P a : Int) : Nat → Int
  | 0 => a
  | i + 1 => if idleAt P a i + 1 < P then idleAt P a i + 1 else 0
def endsAt (P a : Int) : Nat → Int
  | 0 => 0
  | i + 1 => if idleAt P a i + 1 < P then endsAt P a i else endsAt P a i + 1
theorem idle_inv {P a : Int} (h : 0 ≤ a ∧ a < P) : ∀ i : Nat, 0 ≤ idleAt P a i ∧ idleAt P a i < P ∧ endsAt P a i * P + idleAt P a i = a + i ∧ 0 ≤ endsAt P a i ∧ endsAt P a i ≤ i
  | 0 => ⟨h.1, h.2, by simp [idleAt, endsAt], by simp [endsAt], by simp [endsAt]⟩
  | i + 1 => by
    obtain ⟨h1, h2, h3, h4, h5⟩ := idle_inv h i
    simp only [idleAt, endsAt]
    split
    · refine ⟨by omega, by omega, by omega, h4, by omega⟩
    · refine ⟨by omega, by omega, ?_, by omega, by omega⟩
      rw [Int.add_mul]
      omega
theorem ends_two {P a : Int} (h : 0 ≤ a ∧ a < P) {N : Nat} (hN : (N : Int) = 2 * P) : endsAt P a N = 2 := by
  obtain ⟨h1, h2, h3, h4, h5⟩ := idle_inv h N
  by_cases q : endsAt P a N ≤ 1
  · have := Int.mul_le_mul_of_nonneg_right q (show 0 ≤ P by omega)
    omega
  · by_cases q2 : 3 ≤ endsAt P a N
    · have := Int.mul_le_mul_of_nonneg_right q2 (show 0 ≤ P by omega)
      omega
    · omega
theorem ends_at {P a : Int} (h : 0 ≤ a ∧ a < P) {i : Nat} (hi : ¬ idleAt P a i + 1 < P) : ((i : Int) + a + 1).tmod P = 0 := by
  obtain ⟨h1, h2, h3, h4, h5⟩ := idle_inv h i
  have : (i : Int) + a + 1 = (endsAt P a i + 1) * P := by rw [Int.add_mul]; omega
  rw [this, Int.mul_tmod_left]
abbrev boxO (s : State) : Blk := .box [.dat (di s.self), .dat (di s.status), .dat (di s.view), .dat (di s.last), .own 3 0 s.log.length, .dat (di s.commit), .own 4 0 s.vector.length, .dat (di s.idle), .own 5 0 s.acks.length, .own 6 0 s.marks.length, .own 7 0 s.ballots.length, .own 8 0 s.answers.length]
def H_pa (c : Cfg) (s t : State) (i : Nat) : List Blk := if i = 0 then [boxC c, boxS s, boxO s, arrE s.log, arrV s.vector, arrK s.acks, arrM s.marks, arrB s.ballots, arrA s.answers] else [boxC c, boxS s, boxS t]
def S_pa (c : Cfg) (s : State) (b : Bool) (now : Nat → State) (e : Nat → Int) (i : Nat) : St := ⟨[(2, .ptr 0 0), (3, .ptr 1 0), (8, .dat (.bool b)), (9, .ptr 2 0), (10, .dat (di (e i))), (11, .dat (di i))], H_pa c s (now i) i⟩
theorem l_patience (c : Cfg) (s : State) (b : Bool) (now : Nat → State) (e : Nat → Int) (hs : Small s) (hnow : ∀ i, Small (now i)) (h0 : now 0 = s) (hc : cfgOk c) (hi0 : 0 ≤ s.idle ∧ s.idle < c.patience)
    (hst : ∀ i, stateErr c (now i) = 0) (hw : ∀ i, waitS c (now i) = now (i + 1)) (he : ∀ i, e (i + 1) = if waitB c (now i) = true then e i + 1 else e i) (heb : ∀ i, 0 ≤ e i ∧ e i ≤ i)
    (hb : ∀ i, waitB c (now i) = true → (now (i + 1)).idle = 0 ∧ ((i : Int) + s.idle + 1).tmod c.patience = 0) (N : Nat) (hN : (N : Int) = 2 * c.patience) (hn : 1048577 < n) :
    loopAt (XCode.run (runFn T n (d + 7)) n 0 xf_law09_CorePatience_b0) (headOf 0 xf_law09_CorePatience_k0) n (S_pa c s b now e 0) = some (.exit 0, ⟨[(3, .ptr 1 0), (8, .dat (.bool b)), (9, .ptr 2 0), (10, .dat (di (e N)))], [boxC c, boxS s, boxS (now N)]⟩) := by
  have hp : 6 ≤ c.patience ∧ c.patience ≤ 100 := by unfold cfgOk at hc; omega
  have w2 := wrap_small (x := 2 * c.patience) (by omega)
  refine loop_for (S_pa c s b now e) N _ (fun i hi => nextK_some ?_) ?_ (fun s h => by simp at h) n (by omega)
  · have hi' : (i : Int) < 2 * c.patience := by omega
    have w1 := wrap_i i (by omega)
    have w3 := wrap_small (x := (i : Int) + s.idle) (by omega)
    have w4 := wrap_small (x := (i : Int) + s.idle + 1) (by omega)
    have w5 := wrap_small (x := e i + 1) (by have := heb i; omega)
    have hW := e_core_Wait (n := n) (d := d + 1) c (now i) (hnow i) hn
    have hnum := e_num (n := n) (d := d + 6) 0
    have hz : ¬ c.patience = 0 := by omega
    rw [hst i, hw i] at hW
    have he' := he i
    have hb' := hb i
    have hpos : 0 < 2 * c.patience := by omega
    have x1 : IntKind.wrap .i64 1 = 1 := by decide
    have x3 := wrap_small (x := s.idle) (by omega)
    have x4 := wrap_small (x := s.idle + 1) (by omega)
    by_cases i0 : i = 0
    · cases hB : waitB c (now i)
      · rw [hB] at hW he'
        simp only [Bool.false_eq_true, if_false] at he'
        subst i0
        rw [h0] at hW
        simp at hW he'
        simp [xf_law09_CorePatience_b0, xf_law09_CorePatience_k0, S_pa, H_pa, hpos, x1, w2, hW, hnum, he']
      · rw [hB] at hW he'
        obtain ⟨b1, b2⟩ := hb' hB
        simp only [if_true] at he'
        subst i0
        rw [h0] at hW
        simp at hW he' b1 b2 w5
        have b1' := eq_true b1
        simp [xf_law09_CorePatience_b0, xf_law09_CorePatience_k0, S_pa, H_pa, hpos, x1, x3, x4, w2, w5, hW, hnum, he', hz, b1', b2]
    · cases hB : waitB c (now i)
      · rw [hB] at hW he'
        simp only [Bool.false_eq_true, if_false] at he'
        simp [xf_law09_CorePatience_b0, xf_law09_CorePatience_k0, S_pa, H_pa, i0, hi', w1, w2, hW, hnum, he']
      · rw [hB] at hW he'
        obtain ⟨b1, b2⟩ := hb' hB
        simp only [if_true] at he'
        have b1' := eq_true b1
        simp [xf_law09_CorePatience_b0, xf_law09_CorePatience_k0, S_pa, H_pa, i0, hi', w1, w2, w3, w4, w5, hW, hnum, he', hz, b1', b2]
  · have hN0 : ¬ N = 0 := by omega
    have hi' : ¬ (N : Int) < 2 * c.patience := by omega
    simp [xf_law09_CorePatience_b0, S_pa, H_pa, hN0, hi', w2]
theorem law_CorePatience (c : Cfg) (s : State) (hs : Small2 s) (hn : 2097157 < n) : ∃ H, runFn T n (d + 10) 5 [.dat (encCfg c), .dat (encS s)] [] = some (.dat (.bool true), H) := by
  have al := e_alive (n := n) (d := d + 1) (by omega)
  have o2 := e_ref09_Check (n := n) (d := d + 2) c s hs.toSmall (by omega)
  have o1 := e_core_Wait (n := n) (d := d + 3) c s hs.toSmall (by omega)
  have n1 := e_num (n := n) (d := d + 8) (stateErr c s)
  have cp := e_plain_CopyState (n := n) (d := d + 7) s hs.toSmall (by omega)
  have sm := e_plain_SameState (n := n) (d := d + 6) s hs.toSmall (by omega)
  have pr := e_core_Primary (n := n) (d := d + 6) c s.view
  rw [runFn_succ]
  by_cases he : stateErr c s = 0
  · obtain ⟨hc, hh, _⟩ := ok_of_err he
    have hi : 0 ≤ s.idle ∧ s.idle < c.patience := by simp [headOff] at hh; omega
    have hvw : 0 ≤ s.view ∧ s.view ≤ 4294967296 := by simp [headOff] at hh; omega
    have hp : primaryOf c s.view = s.view.tmod (2 * c.f + 1) := by unfold primaryOf; rw [if_pos ⟨hc, hvw⟩]
    have hP : 6 ≤ c.patience ∧ c.patience ≤ 100 := by unfold cfgOk at hc; omega
    obtain ⟨N, hN⟩ := Int.eq_ofNat_of_zero_le (show 0 ≤ 2 * c.patience by omega)
    have hSt : ∀ b, still c s = b → ∃ e : Int, loopAt (XCode.run (runFn T n (d + 9)) n 0 xf_law09_CorePatience_b0) (headOf 0 xf_law09_CorePatience_k0) n ⟨[(2, .ptr 0 0), (3, .ptr 1 0), (8, .dat (.bool b)), (9, .ptr 2 0), (10, .dat (di 0)), (11, .dat (di 0))], [boxC c, boxS s, boxO s, arrE s.log, arrV s.vector, arrK s.acks, arrM s.marks, arrB s.ballots, arrA s.answers]⟩ =
        some (.exit 0, ⟨[(3, .ptr 1 0), (8, .dat (.bool b)), (9, .ptr 2 0), (10, .dat (di e))], [boxC c, boxS s, boxS { s with idle := if b then s.idle else idleAt c.patience s.idle N }]⟩) ∧ (b = true → e = 0) ∧ (b = false → e = 2) := by
      intro b hb
      cases b
      · refine ⟨endsAt c.patience s.idle N, ?_, (fun h => by cases h), fun _ => ends_two hi hN.symm⟩
        have hb0 := idle_inv hi
        have hok := fun i : Nat => idle_ok he hb ⟨(hb0 i).1, (hb0 i).2.1⟩
        have hW : ∀ i, waitS c { s with idle := idleAt c.patience s.idle i } = { s with idle := idleAt c.patience s.idle (i + 1) } := fun i => by
          unfold waitS
          rw [if_neg (by simp [(hok i).1]), (hok i).2]
          simp only [Bool.false_eq_true, if_false, idleAt]
          split <;> rfl
        have hB : ∀ i, waitB c { s with idle := idleAt c.patience s.idle i } = !decide (idleAt c.patience s.idle i + 1 < c.patience) := fun i => by
          unfold waitB
          rw [if_neg (by simp [(hok i).1]), (hok i).2]
          simp only [Bool.false_eq_true, if_false]
          by_cases q : idleAt c.patience s.idle i + 1 < c.patience <;> simp [q]
        have := l_patience (n := n) (d := d + 2) c s false (fun i => { s with idle := idleAt c.patience s.idle i }) (endsAt c.patience s.idle) hs.toSmall
          (fun i => ⟨hs.log, hs.vector, hs.acks, hs.marks, hs.ballots, hs.answers, hs.blogs, hs.alogs⟩) rfl hc hi (fun i => (hok i).1) hW (fun i => by
            rw [hB i]
            simp only [endsAt]
            by_cases q : idleAt c.patience s.idle i + 1 < c.patience <;> simp [q]) (fun i => ⟨(hb0 i).2.2.2.1, (hb0 i).2.2.2.2⟩) (fun i h => by
            rw [hB i] at h
            have q : ¬ idleAt c.patience s.idle i + 1 < c.patience := by simpa using h
            exact ⟨by simp only [idleAt, if_neg q], ends_at hi q⟩) N hN.symm (by omega)
        exact this
      · refine ⟨0, ?_, fun _ => rfl, fun h => by cases h⟩
        have hB : waitB c s = false := by unfold waitB; simp [he, hb]
        have := l_patience (n := n) (d := d + 2) c s true (fun _ => s) (fun _ => 0) hs.toSmall (fun _ => hs.toSmall) rfl hc hi (fun _ => he) (fun _ => by unfold waitS; rw [if_neg (by simp [he]), if_pos hb])
          (fun _ => by simp [hB]) (fun i => ⟨by omega, by omega⟩) (fun i h => by rw [hB] at h; cases h) N hN.symm (by omega)
        exact this
    rw [he] at o2
    have key : ∀ b e, still c s = b → (b = true → e = 0) → (b = false → e = 2) → True := fun _ _ _ _ _ => trivial
    by_cases s3 : s.status = 3
    · have hst : still c s = true := by unfold still; simp [s3]
      obtain ⟨e, l0, e0, _⟩ := hSt true hst
      have s3' := eq_true s3
      rw [e0 rfl] at l0
      simp [xf_law09_CorePatience_k0] at l0
      simp [T, xf_law09_CorePatience, xf_law09_CorePatience_k0, al, o2, cp, sm, s3', l0]
    · have s3' := eq_false s3
      by_cases s1 : s.status = 1
      · have s1' := eq_true s1
        rw [hp] at pr
        by_cases hl : s.self = s.view.tmod (2 * c.f + 1)
        · have hst : still c s = true := by unfold still leads; simp [s1, hl]
          obtain ⟨e, l0, e0, _⟩ := hSt true hst
          rw [e0 rfl] at l0
          simp [xf_law09_CorePatience_k0] at l0
          have hl' := eq_true hl
          simp [T, xf_law09_CorePatience, xf_law09_CorePatience_k0, al, o2, cp, sm, pr, s3', s1', hl', l0]
        · have hst : still c s = false := by unfold still leads; simp [s3, hl]
          obtain ⟨e, l0, _, e0⟩ := hSt false hst
          rw [e0 rfl] at l0
          simp [xf_law09_CorePatience_k0] at l0
          have hl' := eq_false hl
          simp [T, xf_law09_CorePatience, xf_law09_CorePatience_k0, al, o2, cp, sm, pr, s3', s1', hl', l0]
      · have s1' := eq_false s1
        have hst : still c s = false := by unfold still; simp [s3, s1]
        obtain ⟨e, l0, _, e0⟩ := hSt false hst
        rw [e0 rfl] at l0
        simp [xf_law09_CorePatience_k0] at l0
        simp [T, xf_law09_CorePatience, xf_law09_CorePatience_k0, al, o2, cp, sm, s3', s1', l0]
  · have hB : waitB c s = false := by unfold waitB; rw [if_pos he]
    rw [hB] at o1
    simp [T, xf_law09_CorePatience, al, o1, o2, n1, he]
end Go.Ax
