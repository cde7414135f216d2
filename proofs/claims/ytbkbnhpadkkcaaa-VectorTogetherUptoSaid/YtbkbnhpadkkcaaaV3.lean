/-
  Voices, evaluated: the small functions.
-/
import Derived.Test.YtbkbnhpadkkcaaaVV
import Derived.Test.YtbkbnhpadkkcaaaVS
namespace Go.Ax
variable {n d : Nat}
set_option maxRecDepth 10000
set_option linter.unusedSimpArgs false
set_option maxHeartbeats 2000000

def sp (m : Voice) : Bool := decide (1 ≤ m.vec.length ∧ m.vec.length ≤ 7) && decide (0 ≤ m.node) && decide (m.node < m.vec.length)
theorem p47 (m : Voice) : runFn T n (d + 2) 47 [.dat (encVo m)] [] = some (.dat (.bool (sp m)), []) := by
  have h := p38 (n := n) (d := d) m.vec
  rw [runFn_succ]
  simp [T, xf_vector_speaks, h, sp]
theorem p48 (m : Voice) : runFn T n (d + 2) 48 [.dat (encVo m)] [] = some (.dat (.bool (sp m)), []) := by
  have h := p39 (n := n) (d := d) m.vec
  rw [runFn_succ]
  simp [T, xf_ref03_mayVoice, h, sp]
def ov (v : List Draw) (m : Voice) : Bool := sp m && decide (v.length = m.vec.length) && decide (0 < cmp (v.getD m.node.toNat ⟨0, 0⟩) (m.vec.getD m.node.toNat ⟨0, 0⟩))
theorem sp_node {nd : Int} {mv : List Draw} (h : sp ⟨nd, mv⟩ = true) : ∃ k : Nat, nd = k ∧ k < mv.length ∧ 1 ≤ mv.length ∧ mv.length ≤ 7 := by
  simp [sp] at h
  obtain ⟨k, hk⟩ := Int.eq_ofNat_of_zero_le h.1.2
  exact ⟨k, hk, by omega, h.1.1.1, h.1.1.2⟩
theorem p30 (v : List Draw) (m : Voice) : runFn T n (d + 3) 30 [.dat (encV v), .dat (encVo m)] [] = some (.dat (.bool (ov v m)), []) := by
  have h := p47 (n := n) (d := d) m
  rw [runFn_succ]
  unfold ov
  cases hs : sp m
  · rw [hs] at h
    simp [T, xf_vector_Over, h]
  · rw [hs] at h
    by_cases hl : v.length = m.vec.length
    · have hl' : (m.vec.length : Int) = v.length := by omega
      obtain ⟨nd, mv⟩ := m
      obtain ⟨k, rfl, hk1, _⟩ := sp_node hs
      simp only at hl hl' h
      have hk2 : k < v.length := by omega
      have hc := p43 (n := n) (d := d + 1) v[k] mv[k]
      simp [T, xf_vector_Over, h, hl', hk1, hk2, hc, hl]
    · have hl' : ¬ (v.length : Int) = m.vec.length := by omega
      simp [T, xf_vector_Over, h, hl', hl]
theorem p31 (v : List Draw) (m : Voice) : runFn T n (d + 3) 31 [.dat (encV v), .dat (encVo m)] [] = some (.dat (.bool (ov v m)), []) := by
  have h := p48 (n := n) (d := d) m
  have h2 := p39 (n := n) (d := d + 1) v
  rw [runFn_succ]
  unfold ov
  cases hs : sp m
  · rw [hs] at h
    cases hb : decide (1 ≤ v.length ∧ v.length ≤ 7) <;> rw [hb] at h2 <;> simp [T, xf_ref03_Over, h, h2]
  · rw [hs] at h
    by_cases hl : v.length = m.vec.length
    · have hl' : (m.vec.length : Int) = v.length := by omega
      obtain ⟨nd, mv⟩ := m
      obtain ⟨k, rfl, hk1, hk3, hk4⟩ := sp_node hs
      simp only at hl hl' h
      have hk2 : k < v.length := by omega
      have hb : decide (1 ≤ v.length ∧ v.length ≤ 7) = true := decide_eq_true ⟨by omega, by omega⟩
      rw [hb] at h2
      have hc := p44 (n := n) (d := d) mv[k] v[k]
      have hneg := cmp_neg v[k] mv[k]
      have e : decide (cmp mv[k] v[k] < 0) = decide (0 < cmp v[k] mv[k]) := decide_eq_decide.2 ⟨fun h => by omega, fun h => by omega⟩
      rw [e] at hc
      simp [T, xf_ref03_Over, h, h2, hl', hk1, hk2, hc, hl]
    · have hl' : ¬ (v.length : Int) = m.vec.length := by omega
      cases hb : decide (1 ≤ v.length ∧ v.length ≤ 7) <;> rw [hb] at h2 <;> simp [T, xf_ref03_Over, h, h2, hl', hl]
end Go.Ax

namespace Go.Ax
variable {n d : Nat}
set_option maxRecDepth 10000
set_option linter.unusedSimpArgs false
set_option maxHeartbeats 2000000

def k0 (l : List Voice) : Nat := (l.headD ⟨0, []⟩).vec.length
def badVo (l : List Voice) (m : Voice) : Bool := !sp m || !decide (m.vec.length = k0 l)
def voOk (l : List Voice) : Bool := (l.find? (badVo l)).isNone
theorem head_get {l : List Voice} (h : 0 < l.length) : l[0].vec.length = k0 l := by
  cases l with
  | nil => simp at h
  | cons x r => rfl
abbrev boxVo (m : Voice) : Blk := .box [.dat (.int .i64 m.node), .dat (encV m.vec)]
def S45 (l : List Voice) (i : Nat) : St := ⟨[(0, .dat (encVos l)), (5, .dat (encVos l)), (6, .dat (.int .i64 l.length)), (7, .dat (.int .i64 i))], []⟩
theorem l45 (l : List Voice) (hl : l.length ≤ 1999999) (hn : 1999999 < n) : loopAt (XCode.run (runFn T n (d + 2)) n 0 xf_vector_speak_b0) (headOf 0 xf_vector_speak_k0) n (S45 l 0) =
    some ((l.find? (badVo l)).elim (.exit 0, ⟨[], []⟩) (fun m => (.ret, ⟨[(2, .dat (.bool false))], [boxVo m]⟩))) := by
  refine loop_find (S45 l) l (badVo l) (fun m => (.ret, ⟨[(2, .dat (.bool false))], [boxVo m]⟩)) (.exit 0, ⟨[], []⟩) (fun i hi hp => ?_) (fun i hi hp => ?_) ?_ (fun x s h => by simp at h) (fun s h => by simp at h) n (by omega)
  · have hi' : (i : Int) < l.length := by omega
    have hz : 0 < l.length := by omega
    have h0 := head_get hz
    have h := p47 (n := n) (d := d) l[i]
    unfold badVo at hp
    cases hs : sp l[i] <;> rw [hs] at h hp
    · simp [xf_vector_speak_b0, S45, hi, hi', h]
    · have hne : ¬ ((l[i].vec.length : Nat) : Int) = l[0].vec.length := by rw [h0]; simp at hp; omega
      simp [xf_vector_speak_b0, S45, hi, hi', h, hz, hne]
  · have hi' : (i : Int) < l.length := by omega
    have hw := wrap_i i (by omega)
    have hz : 0 < l.length := by omega
    have h0 := head_get hz
    have h := p47 (n := n) (d := d) l[i]
    unfold badVo at hp
    simp at hp
    rw [hp.1] at h
    have he : ((l[i].vec.length : Nat) : Int) = l[0].vec.length := by rw [h0]; omega
    refine nextK_some ?_
    simp [xf_vector_speak_b0, xf_vector_speak_k0, S45, hi, hi', h, hz, he, hw]
  · simp [xf_vector_speak_b0, S45]
theorem p45 (l : List Voice) (hl : l.length ≤ 1999999) (hn : 1999999 < n) : runFn T n (d + 3) 45 [.dat (encVos l)] [] = some (.dat (.bool (voOk l)), []) := by
  have h0 := l45 (d := d) l hl hn
  simp [S45, xf_vector_speak_k0] at h0
  rw [runFn_succ]
  unfold voOk
  cases hf : l.find? (badVo l) with
  | none => rw [hf] at h0; simp at h0; simp [T, xf_vector_speak, xf_vector_speak_k0, h0]
  | some x => rw [hf] at h0; simp at h0; simp [T, xf_vector_speak, xf_vector_speak_k0, h0]
def S46 (l : List Voice) (i : Nat) : St := ⟨[(0, .dat (encVos l)), (3, .dat (.int .i64 i))], []⟩
theorem l46 (l : List Voice) (hl : l.length ≤ 1999999) (hn : 1999999 < n) : loopAt (XCode.run (runFn T n (d + 2)) n 0 xf_ref03_voices_b0) (headOf 0 xf_ref03_voices_k0) n (S46 l 0) =
    some ((l.find? (badVo l)).elim (.exit 0, ⟨[], []⟩) (fun _ => (.ret, ⟨[(2, .dat (.int .i64 30))], []⟩))) := by
  refine loop_find (S46 l) l (badVo l) (fun _ => (.ret, ⟨[(2, .dat (.int .i64 30))], []⟩)) (.exit 0, ⟨[], []⟩) (fun i hi hp => ?_) (fun i hi hp => ?_) ?_ (fun x s h => by simp at h) (fun s h => by simp at h) n (by omega)
  · have hi' : (i : Int) < l.length := by omega
    have hz : 0 < l.length := by omega
    have h0 := head_get hz
    have h := p48 (n := n) (d := d) l[i]
    unfold badVo at hp
    cases hs : sp l[i] <;> rw [hs] at h hp
    · simp [xf_ref03_voices_b0, S46, hi, hi', h]
    · have hne : ¬ ((l[i].vec.length : Nat) : Int) = l[0].vec.length := by rw [h0]; simp at hp; omega
      simp [xf_ref03_voices_b0, S46, hi, hi', h, hz, hne]
  · have hi' : (i : Int) < l.length := by omega
    have hw := wrap_i i (by omega)
    have hz : 0 < l.length := by omega
    have h0 := head_get hz
    have h := p48 (n := n) (d := d) l[i]
    unfold badVo at hp
    simp at hp
    rw [hp.1] at h
    have he : ((l[i].vec.length : Nat) : Int) = l[0].vec.length := by rw [h0]; omega
    refine nextK_some ?_
    simp [xf_ref03_voices_b0, xf_ref03_voices_k0, S46, hi, hi', h, hz, he, hw]
  · simp [xf_ref03_voices_b0, S46]
theorem p46 (l : List Voice) (hl : l.length ≤ 1999999) (hn : 1999999 < n) : runFn T n (d + 3) 46 [.dat (encVos l)] [] = some (.dat (.int .i64 (if voOk l then 0 else 30)), []) := by
  have h0 := l46 (d := d) l hl hn
  simp [S46, xf_ref03_voices_k0] at h0
  rw [runFn_succ]
  unfold voOk
  cases hf : l.find? (badVo l) with
  | none => rw [hf] at h0; simp at h0; simp [T, xf_ref03_voices, xf_ref03_voices_k0, h0]
  | some x => rw [hf] at h0; simp at h0; simp [T, xf_ref03_voices, xf_ref03_voices_k0, h0]
end Go.Ax

namespace Go.Ax
variable {n d : Nat}
set_option maxRecDepth 10000
set_option linter.unusedSimpArgs false
set_option maxHeartbeats 2000000

theorem loopL_idx {β ρ : Type} (p : β → Bool) (e : Nat → ρ) (fin : ρ) : ∀ (l : List β) (a : Nat), loopL (fun i x => if p x = true then .inr (e i) else .inl (i + 1)) (fun _ => fin) l a = (l.findIdx? p).elim fin (fun j => e (a + j))
  | [], a => rfl
  | x :: r, a => by
    simp only [loopL, List.findIdx?_cons]
    cases h : p x
    · simp only [Bool.false_eq_true, if_false]
      rw [loopL_idx p e fin r (a + 1)]
      cases r.findIdx? p with
      | none => rfl
      | some j => simp; congr 1; omega
    · simp
def inn (l : List Voice) (m : Voice) : Option Nat := l.findIdx? fun x => ov x.vec m
def goC (l : List Voice) : Nat → List Voice → Option (Nat × Nat)
  | _, [] => none
  | i, m :: r => match inn l m with
    | some k => some (i, k)
    | none => goC l (i + 1) r
theorem loopL_goC {ρ : Type} (l : List Voice) (e : Nat → Nat → ρ) (fin : ρ) : ∀ (r : List Voice) (a : Nat), loopL (fun i m => match inn l m with
    | some k => .inr (e i k)
    | none => .inl (i + 1)) (fun _ => fin) r a = (goC l a r).elim fin (fun p => e p.1 p.2)
  | [], a => rfl
  | m :: r, a => by
    simp only [loopL, goC]
    cases h : inn l m
    · exact loopL_goC l e fin r (a + 1)
    · rfl

def S25i (l : List Voice) (i : Nat) (k : Nat) : St := ⟨[(0, .dat (encVos l)), (5, .dat (.int .i64 i)), (11, .dat (.int .i64 l.length)), (12, .dat (.int .i64 i)), (16, .dat (.int .i64 l.length)), (17, .dat (.int .i64 k))], []⟩
theorem l25i (l : List Voice) (hl : l.length ≤ 1999999) (hn : 1999999 < n) (i : Nat) (hi : i < l.length) : loopAt (XCode.run (runFn T n (d + 3)) n 0 xf_vector_Consistent_b1) (headOf 0 xf_vector_Consistent_k1) n (S25i l i 0) =
    some ((inn l l[i]).elim (.exit 2, ⟨[(0, .dat (encVos l)), (11, .dat (.int .i64 l.length)), (12, .dat (.int .i64 i))], []⟩) (fun k => (.ret, ⟨[(2, .dat (.int .i64 i)), (3, .dat (.int .i64 k)), (4, .dat (.int .i64 0))], []⟩))) := by
  have := loop_list (body := XCode.run (runFn T n (d + 3)) n 0 xf_vector_Consistent_b1) (head := headOf 0 xf_vector_Consistent_k1) (fun k (_ : Nat) => S25i l i k) (fun k a => a = k) l
    (fun k x => if ov x.vec l[i] = true then .inr (.ret, ⟨[(2, .dat (.int .i64 i)), (3, .dat (.int .i64 k)), (4, .dat (.int .i64 0))], []⟩) else .inl (k + 1)) (fun _ => (.exit 2, ⟨[(0, .dat (encVos l)), (11, .dat (.int .i64 l.length)), (12, .dat (.int .i64 i))], []⟩))
    (fun k a hk hI => ?_) (fun a _ => ⟨by simp [xf_vector_Consistent_b1, S25i], fun s h => by simp at h⟩) l.length n 0 0 (by omega) (by omega) rfl
  · rw [this, loopL_idx (fun x : Voice => ov x.vec l[i]) (fun k => (Ex.ret, (⟨[(2, .dat (.int .i64 i)), (3, .dat (.int .i64 k)), (4, .dat (.int .i64 0))], []⟩ : St))), List.drop_zero]
    simp [inn]
  · subst hI
    have hk' : (a : Int) < l.length := by omega
    have hi' : (i : Int) < l.length := by omega
    have hw := wrap_i a (by omega)
    have ho := p30 (n := n) (d := d) l[a].vec l[i]
    cases hb : ov l[a].vec l[i] <;> rw [hb] at ho
    · simp only [Bool.false_eq_true, if_false]
      refine ⟨trivial, nextK_some ?_⟩
      simp [xf_vector_Consistent_b1, xf_vector_Consistent_k1, S25i, hk, hk', hi, ho, hw]
    · simp only [if_true]
      refine ⟨?_, fun s h => by simp at h⟩
      simp [xf_vector_Consistent_b1, S25i, hk, hk', hi, ho]
def S25o (l : List Voice) (i : Nat) : St := ⟨[(0, .dat (encVos l)), (11, .dat (.int .i64 l.length)), (12, .dat (.int .i64 i))], []⟩
theorem l25o (l : List Voice) (hl : l.length ≤ 1999999) (hn : 1999999 < n) : loopAt (XCode.run (runFn T n (d + 3)) n 0 xf_vector_Consistent_b0) (headOf 0 xf_vector_Consistent_k0) n (S25o l 0) =
    some ((goC l 0 l).elim (.exit 0, ⟨[], []⟩) (fun p => (.ret, ⟨[(2, .dat (.int .i64 p.1)), (3, .dat (.int .i64 p.2)), (4, .dat (.int .i64 0))], []⟩))) := by
  have := loop_list (body := XCode.run (runFn T n (d + 3)) n 0 xf_vector_Consistent_b0) (head := headOf 0 xf_vector_Consistent_k0) (fun i (_ : Nat) => S25o l i) (fun i a => a = i) l
    (fun i m => match inn l m with
      | some k => .inr (.ret, ⟨[(2, .dat (.int .i64 i)), (3, .dat (.int .i64 k)), (4, .dat (.int .i64 0))], []⟩)
      | none => .inl (i + 1)) (fun _ => (.exit 0, ⟨[], []⟩))
    (fun i a hi hI => ?_) (fun a _ => ⟨by simp [xf_vector_Consistent_b0, S25o], fun s h => by simp at h⟩) l.length n 0 0 (by omega) (by omega) rfl
  · rw [this, loopL_goC l (fun i k => (Ex.ret, (⟨[(2, .dat (.int .i64 i)), (3, .dat (.int .i64 k)), (4, .dat (.int .i64 0))], []⟩ : St))), List.drop_zero]
  · subst hI
    have hi' : (a : Int) < l.length := by omega
    have hw := wrap_i a (by omega)
    have h0 := l25i (d := d) l hl hn a hi
    simp [S25i, xf_vector_Consistent_k1] at h0
    cases hb : inn l l[a] with
    | none =>
      rw [hb] at h0; simp at h0
      refine ⟨rfl, nextK_some ?_⟩
      simp [xf_vector_Consistent_b0, xf_vector_Consistent_k0, xf_vector_Consistent_k1, S25o, hi', h0, hw]
    | some k =>
      rw [hb] at h0; simp at h0
      refine ⟨?_, fun s h => by simp at h⟩
      simp [xf_vector_Consistent_b0, xf_vector_Consistent_k1, S25o, hi', h0]
def consI (l : List Voice) : Int := if voOk l then (goC l 0 l).elim (-1) (fun p => p.1) else 0
def consK (l : List Voice) : Int := if voOk l then (goC l 0 l).elim (-1) (fun p => p.2) else 0
def voErr (l : List Voice) : Int := if voOk l then 0 else 30
theorem p25 (l : List Voice) (hl : l.length ≤ 1999999) (hn : 1999999 < n) : runFn T n (d + 4) 25 [.dat (encVos l)] [] = some (.tup [.dat (.int .i64 (consI l)), .dat (.int .i64 (consK l)), .dat (.int .i64 (voErr l))], []) := by
  have h1 := p45 (n := n) (d := d) l hl hn
  have h0 := l25o (d := d) l hl hn
  simp [S25o, xf_vector_Consistent_k0] at h0
  rw [runFn_succ]
  unfold consI consK voErr
  cases hv : voOk l <;> rw [hv] at h1
  · simp [T, xf_vector_Consistent, h1]
  · cases hg : goC l 0 l with
    | none => rw [hg] at h0; simp at h0; simp [T, xf_vector_Consistent, xf_vector_Consistent_k0, h1, h0]
    | some p => rw [hg] at h0; simp at h0; simp [T, xf_vector_Consistent, xf_vector_Consistent_k0, h1, h0]
def S26i (l : List Voice) (i : Nat) (k : Nat) : St := ⟨[(0, .dat (encVos l)), (6, .dat (.int .i64 i)), (7, .dat (.int .i64 k))], []⟩
theorem l26i (l : List Voice) (hl : l.length ≤ 1999999) (hn : 1999999 < n) (i : Nat) (hi : i < l.length) : loopAt (XCode.run (runFn T n (d + 3)) n 0 xf_ref03_Consistent_b1) (headOf 0 xf_ref03_Consistent_k1) n (S26i l i 0) =
    some ((inn l l[i]).elim (.exit 2, ⟨[(0, .dat (encVos l)), (6, .dat (.int .i64 i))], []⟩) (fun k => (.ret, ⟨[(2, .dat (.int .i64 i)), (3, .dat (.int .i64 k)), (4, .dat (.int .i64 0))], []⟩))) := by
  have := loop_list (body := XCode.run (runFn T n (d + 3)) n 0 xf_ref03_Consistent_b1) (head := headOf 0 xf_ref03_Consistent_k1) (fun k (_ : Nat) => S26i l i k) (fun k a => a = k) l
    (fun k x => if ov x.vec l[i] = true then .inr (.ret, ⟨[(2, .dat (.int .i64 i)), (3, .dat (.int .i64 k)), (4, .dat (.int .i64 0))], []⟩) else .inl (k + 1)) (fun _ => (.exit 2, ⟨[(0, .dat (encVos l)), (6, .dat (.int .i64 i))], []⟩))
    (fun k a hk hI => ?_) (fun a _ => ⟨by simp [xf_ref03_Consistent_b1, S26i], fun s h => by simp at h⟩) l.length n 0 0 (by omega) (by omega) rfl
  · rw [this, loopL_idx (fun x : Voice => ov x.vec l[i]) (fun k => (Ex.ret, (⟨[(2, .dat (.int .i64 i)), (3, .dat (.int .i64 k)), (4, .dat (.int .i64 0))], []⟩ : St))), List.drop_zero]
    simp [inn]
  · subst hI
    have hk' : (a : Int) < l.length := by omega
    have hi' : (i : Int) < l.length := by omega
    have hw := wrap_i a (by omega)
    have ho := p31 (n := n) (d := d) l[a].vec l[i]
    cases hb : ov l[a].vec l[i] <;> rw [hb] at ho
    · simp only [Bool.false_eq_true, if_false]
      refine ⟨trivial, nextK_some ?_⟩
      simp [xf_ref03_Consistent_b1, xf_ref03_Consistent_k1, S26i, hk, hk', hi, ho, hw]
    · simp only [if_true]
      refine ⟨?_, fun s h => by simp at h⟩
      simp [xf_ref03_Consistent_b1, S26i, hk, hk', hi, ho]
def S26o (l : List Voice) (i : Nat) : St := ⟨[(0, .dat (encVos l)), (6, .dat (.int .i64 i))], []⟩
theorem l26o (l : List Voice) (hl : l.length ≤ 1999999) (hn : 1999999 < n) : loopAt (XCode.run (runFn T n (d + 3)) n 0 xf_ref03_Consistent_b0) (headOf 0 xf_ref03_Consistent_k0) n (S26o l 0) =
    some ((goC l 0 l).elim (.exit 0, ⟨[], []⟩) (fun p => (.ret, ⟨[(2, .dat (.int .i64 p.1)), (3, .dat (.int .i64 p.2)), (4, .dat (.int .i64 0))], []⟩))) := by
  have := loop_list (body := XCode.run (runFn T n (d + 3)) n 0 xf_ref03_Consistent_b0) (head := headOf 0 xf_ref03_Consistent_k0) (fun i (_ : Nat) => S26o l i) (fun i a => a = i) l
    (fun i m => match inn l m with
      | some k => .inr (.ret, ⟨[(2, .dat (.int .i64 i)), (3, .dat (.int .i64 k)), (4, .dat (.int .i64 0))], []⟩)
      | none => .inl (i + 1)) (fun _ => (.exit 0, ⟨[], []⟩))
    (fun i a hi hI => ?_) (fun a _ => ⟨by simp [xf_ref03_Consistent_b0, S26o], fun s h => by simp at h⟩) l.length n 0 0 (by omega) (by omega) rfl
  · rw [this, loopL_goC l (fun i k => (Ex.ret, (⟨[(2, .dat (.int .i64 i)), (3, .dat (.int .i64 k)), (4, .dat (.int .i64 0))], []⟩ : St))), List.drop_zero]
  · subst hI
    have hi' : (a : Int) < l.length := by omega
    have hw := wrap_i a (by omega)
    have h0 := l26i (d := d) l hl hn a hi
    simp [S26i, xf_ref03_Consistent_k1] at h0
    cases hb : inn l l[a] with
    | none =>
      rw [hb] at h0; simp at h0
      refine ⟨rfl, nextK_some ?_⟩
      simp [xf_ref03_Consistent_b0, xf_ref03_Consistent_k0, xf_ref03_Consistent_k1, S26o, hi', h0, hw]
    | some k =>
      rw [hb] at h0; simp at h0
      refine ⟨?_, fun s h => by simp at h⟩
      simp [xf_ref03_Consistent_b0, xf_ref03_Consistent_k1, S26o, hi', h0]
theorem p26 (l : List Voice) (hl : l.length ≤ 1999999) (hn : 1999999 < n) : runFn T n (d + 4) 26 [.dat (encVos l)] [] = some (.tup [.dat (.int .i64 (consI l)), .dat (.int .i64 (consK l)), .dat (.int .i64 (voErr l))], []) := by
  have h1 := p46 (n := n) (d := d) l hl hn
  have h0 := l26o (d := d) l hl hn
  simp [S26o, xf_ref03_Consistent_k0] at h0
  rw [runFn_succ]
  unfold consI consK voErr
  cases hv : voOk l <;> rw [hv] at h1 <;> simp at h1
  · simp [T, xf_ref03_Consistent, h1]
  · cases hg : goC l 0 l with
    | none => rw [hg] at h0; simp at h0; simp [T, xf_ref03_Consistent, xf_ref03_Consistent_k0, h1, h0]
    | some p => rw [hg] at h0; simp at h0; simp [T, xf_ref03_Consistent, xf_ref03_Consistent_k0, h1, h0]
end Go.Ax

namespace Go.Ax
variable {n d : Nat}
set_option maxRecDepth 10000
set_option linter.unusedSimpArgs false
set_option maxHeartbeats 2000000

def idxs (f : Voice → Bool) : Nat → List Voice → List Nat
  | _, [] => []
  | i, m :: r => if f m = true then i :: idxs f (i + 1) r else idxs f (i + 1) r
theorem idxs_snoc (f : Voice → Bool) (v : Voice) : ∀ (p : List Voice) (i : Nat), idxs f i (p ++ [v]) = idxs f i p ++ (if f v = true then [i + p.length] else [])
  | [], i => by simp [idxs]
  | x :: p, i => by
    simp only [List.cons_append, idxs, idxs_snoc f v p (i + 1), List.length_cons]
    have e : i + 1 + p.length = i + (p.length + 1) := by omega
    rw [e]
    split <;> simp
theorem idxs_len (f : Voice → Bool) : ∀ (p : List Voice) (i : Nat), (idxs f i p).length ≤ p.length
  | [], i => by simp [idxs]
  | x :: p, i => by
    have := idxs_len f p (i + 1)
    simp only [idxs]
    split <;> simp <;> omega
abbrev encI (k : Nat) : Dat := .int .i64 k
def S27a (l p : List Voice) : St := ⟨[(0, .dat (encVos l)), (4, .own 0 0 p.length), (15, .dat (encVos l)), (16, .dat (.int .i64 l.length)), (17, .dat (.int .i64 p.length))], [.arr 23 1 false false (p.map fun m => encV m.vec)]⟩
theorem l27a (cf : CallF) (l : List Voice) (hl : l.length ≤ 1999998) (hn : 1999999 < n) : loopAt (XCode.run cf n 0 xf_vector_Alive_b0) (headOf 0 xf_vector_Alive_k0) n (S27a l []) = some (.exit 0, ⟨[(0, .dat (encVos l)), (4, .own 0 0 l.length)], [.arr 23 1 false false (l.map fun m => encV m.vec)]⟩) := by
  refine loop_pre (S27a l) l _ (fun p v r hl => ?_) ?_ (fun s h => by simp at h) n (by omega)
  · have hx : (p.length : Int) < p.length + (r.length + 1) := by omega
    have hp : p.length ≤ 1999998 := by have : l.length = p.length + (r.length + 1) := by simp [hl]
                                       omega
    have hw := wrap_i p.length (by omega)
    have hL : p.length + 1 ≤ LIM := by simp only [LIM]; omega
    simp at hw
    simp [xf_vector_Alive_b0, xf_vector_Alive_k0, S27a, hl, hx, hw, hL]
  · simp [xf_vector_Alive_b0, S27a]
def S27b (l : List Voice) (mm : List Draw) (p : List Voice) : St := ⟨[(7, .dat (encV mm)), (9, .own 0 0 (idxs (fun m => !ov mm m) 0 p).length), (32, .dat (encVos l)), (33, .dat (.int .i64 l.length)), (34, .dat (.int .i64 p.length))], [.arr 3 1 true false ((idxs (fun m => !ov mm m) 0 p).map encI)]⟩
theorem l27b (l : List Voice) (mm : List Draw) (hl : l.length ≤ 1999998) (hn : 1999999 < n) : loopAt (XCode.run (runFn T n (d + 3)) n 0 xf_vector_Alive_b1) (headOf 0 xf_vector_Alive_k1) n (S27b l mm []) =
    some (.exit 2, ⟨[(9, .own 0 0 (idxs (fun m => !ov mm m) 0 l).length)], [.arr 3 1 true false ((idxs (fun m => !ov mm m) 0 l).map encI)]⟩) := by
  refine loop_pre (S27b l mm) l _ (fun p v r hl => ?_) ?_ (fun s h => by simp at h) n (by omega)
  · have hx : (p.length : Int) < p.length + (r.length + 1) := by omega
    have hp : p.length ≤ 1999998 := by have : l.length = p.length + (r.length + 1) := by simp [hl]
                                       omega
    have hw := wrap_i p.length (by omega)
    have hI := idxs_len (fun m => !ov mm m) p 0
    have hL : (idxs (fun m => !ov mm m) 0 p).length + 1 ≤ LIM := by simp only [LIM]; omega
    have ho := p30 (n := n) (d := d) mm v
    have hs := idxs_snoc (fun m => !ov mm m) v p 0
    simp at hw
    simp only [S27b, hs]
    generalize idxs (fun m => !ov mm m) 0 p = I at hL ⊢
    cases hb : ov mm v <;> rw [hb] at ho
    · simp [xf_vector_Alive_b1, xf_vector_Alive_k1, hl, hx, hw, hL, ho]
    · simp [xf_vector_Alive_b1, xf_vector_Alive_k1, hl, hx, hw, hL, ho]
  · simp [xf_vector_Alive_b1, S27b]
def aliveL (l : List Voice) : List Nat := if voOk l then idxs (fun m => !ov (mergeR (l.map (·.vec))) m) 0 l else []
theorem p27 (l : List Voice) (hl : l.length ≤ 1999998) (hn : 1999999 < n) : runFn T n (d + 4) 27 [.dat (encVos l)] [] = some (.tup [.dat (.sl 1 true ((aliveL l).map encI)), .dat (.int .i64 (voErr l))], []) := by
  have h1 := p45 (n := n) (d := d) l (by omega) hn
  have h2 := l27a (runFn T n (d + 3)) l hl hn
  have h3 := p20 (n := n) (d := d + 1) (l.map (·.vec)) (by simp; omega) hn
  simp only [encL, List.map_map] at h3
  have hf : (encV ∘ fun m : Voice => m.vec) = fun m : Voice => encV m.vec := rfl
  rw [hf] at h3
  generalize hmm : mergeR (l.map (·.vec)) = mm at h3
  have h4 := l27b (d := d) l mm hl hn
  simp only [S27a, S27b, List.length_nil, List.map_nil, Int.natCast_zero, xf_vector_Alive_k0, xf_vector_Alive_k1, idxs] at h2 h4
  rw [runFn_succ]
  unfold aliveL voErr
  cases hv : voOk l <;> rw [hv] at h1
  · simp [T, xf_vector_Alive, h1]
  · rw [hmm]
    generalize idxs (fun m => !ov mm m) 0 l = I at h4 ⊢
    simp [T, xf_vector_Alive, xf_vector_Alive_k0, xf_vector_Alive_k1, h1, h2, h3, h4]
end Go.Ax

namespace Go.Ax
variable {n d : Nat}
set_option maxRecDepth 10000
set_option linter.unusedSimpArgs false
set_option maxHeartbeats 2000000

theorem foldl_or {β : Type} (p : β → Bool) : ∀ (l : List β) (a : Bool), l.foldl (fun a x => a || p x) a = (a || l.any p)
  | [], a => by simp
  | x :: r, a => by rw [List.foldl_cons, foldl_or p r]; simp [Bool.or_assoc]
def S28i (l : List Voice) (I : List Nat) (i : Nat) (k : Nat) (b : Bool) : St := ⟨[(0, .dat (encVos l)), (5, .own 0 0 I.length), (6, .dat (.int .i64 i)), (7, .dat (.bool b)), (8, .dat (.int .i64 k))], [.arr 3 1 true false (I.map encI)]⟩
theorem l28i (l : List Voice) (I : List Nat) (hl : l.length ≤ 1999998) (hn : 1999999 < n) (i : Nat) (hi : i < l.length) : loopAt (XCode.run (runFn T n (d + 3)) n 0 xf_ref03_Alive_b1) (headOf 0 xf_ref03_Alive_k1) n (S28i l I i 0 false) =
    some (.exit 2, ⟨[(0, .dat (encVos l)), (5, .own 0 0 I.length), (6, .dat (.int .i64 i)), (7, .dat (.bool (l.any fun x => ov x.vec l[i])))], [.arr 3 1 true false (I.map encI)]⟩) := by
  have := loop_fold (body := XCode.run (runFn T n (d + 3)) n 0 xf_ref03_Alive_b1) (head := headOf 0 xf_ref03_Alive_k1) (fun k b => S28i l I i k b) (fun _ _ => True) l (fun a x => a || ov x.vec l[i])
    (fun b => (.exit 2, ⟨[(0, .dat (encVos l)), (5, .own 0 0 I.length), (6, .dat (.int .i64 i)), (7, .dat (.bool b))], [.arr 3 1 true false (I.map encI)]⟩)) false trivial
    (fun k a hk _ => ⟨trivial, nextK_some ?_⟩) (fun a _ => by simp [xf_ref03_Alive_b1, S28i]) (fun a s h => by simp at h) n (by omega)
  · rw [this, foldl_or]; simp
  · have hk' : (k : Int) < l.length := by omega
    have hw := wrap_i k (by omega)
    have ho := p31 (n := n) (d := d) l[k].vec l[i]
    have hii : (i : Int) < l.length := by omega
    cases a
    · cases hb : ov l[k].vec l[i] <;> rw [hb] at ho <;> simp [xf_ref03_Alive_b1, xf_ref03_Alive_k1, S28i, hk, hk', hi, ho, hw]
    · simp [xf_ref03_Alive_b1, xf_ref03_Alive_k1, S28i, hk, hk', hi, hw]
def fnd (l : List Voice) (m : Voice) : Bool := !l.any fun x => ov x.vec m
def S28o (l : List Voice) (p : List Voice) : St := ⟨[(0, .dat (encVos l)), (5, .own 0 0 (idxs (fnd l) 0 p).length), (6, .dat (.int .i64 p.length))], [.arr 3 1 true false ((idxs (fnd l) 0 p).map encI)]⟩
theorem l28o (l : List Voice) (hl : l.length ≤ 1999998) (hn : 1999999 < n) : loopAt (XCode.run (runFn T n (d + 3)) n 0 xf_ref03_Alive_b0) (headOf 0 xf_ref03_Alive_k0) n (S28o l []) =
    some (.exit 0, ⟨[(5, .own 0 0 (idxs (fnd l) 0 l).length)], [.arr 3 1 true false ((idxs (fnd l) 0 l).map encI)]⟩) := by
  refine loop_pre (S28o l) l _ (fun p v r hl2 => ?_) ?_ (fun s h => by simp at h) n (by omega)
  · have hx : (p.length : Int) < l.length := by rw [hl2]; simp; omega
    have hpl : p.length < l.length := by rw [hl2]; simp
    have hp : p.length ≤ 1999998 := by omega
    have hg : l[p.length] = v := by simp [hl2]
    have hw := wrap_i p.length (by omega)
    have hI := idxs_len (fnd l) p 0
    have hL : (idxs (fnd l) 0 p).length + 1 ≤ LIM := by simp only [LIM]; omega
    have hs := idxs_snoc (fnd l) v p 0
    have h0 := l28i (n := n) (d := d) l (idxs (fnd l) 0 p) hl hn p.length hpl
    rw [hg] at h0
    simp [S28i, xf_ref03_Alive_k1] at h0
    simp at hw
    simp only [S28o, hs]
    have hfv : fnd l v = !(l.any fun x => ov x.vec v) := rfl
    rw [hfv]
    generalize idxs (fnd l) 0 p = I at hL h0 ⊢
    cases hb : (l.any fun x => ov x.vec v) <;> rw [hb] at h0
    · simp [xf_ref03_Alive_b0, xf_ref03_Alive_k0, xf_ref03_Alive_k1, hx, hw, hL, h0]
    · simp [xf_ref03_Alive_b0, xf_ref03_Alive_k0, xf_ref03_Alive_k1, hx, hw, hL, h0]
  · simp [xf_ref03_Alive_b0, S28o]
def aliveR (l : List Voice) : List Nat := if voOk l then idxs (fnd l) 0 l else []
theorem p28 (l : List Voice) (hl : l.length ≤ 1999998) (hn : 1999999 < n) : runFn T n (d + 4) 28 [.dat (encVos l)] [] = some (.tup [.dat (.sl 1 true ((aliveR l).map encI)), .dat (.int .i64 (voErr l))], []) := by
  have h1 := p46 (n := n) (d := d) l (by omega) hn
  have h4 := l28o (d := d) l hl hn
  simp only [S28o, List.length_nil, List.map_nil, Int.natCast_zero, xf_ref03_Alive_k0, idxs] at h4
  rw [runFn_succ]
  unfold aliveR voErr
  cases hv : voOk l <;> rw [hv] at h1 <;> simp at h1
  · simp [T, xf_ref03_Alive, h1]
  · generalize idxs (fnd l) 0 l = I at h4 ⊢
    simp [T, xf_ref03_Alive, xf_ref03_Alive_k0, h1, h4]
end Go.Ax

namespace Go.Ax
variable {n d : Nat}
set_option maxRecDepth 10000
set_option linter.unusedSimpArgs false
set_option maxHeartbeats 2000000

theorem cmp_pos (x y : Draw) : 0 < cmp x y ↔ cmp x y = 1 := by rcases cmp_cases x y with e | e | e <;> omega
theorem cmp_mxd (a b y : Draw) : cmp (mxd a b) y = 1 ↔ cmp a y = 1 ∨ cmp b y = 1 := by
  rcases mxd_or a b with ⟨e, h⟩ | ⟨e, h⟩ <;> rw [e]
  · exact ⟨.inl, fun hh => hh.elim id (fun hb => Classical.byContradiction fun ha => (cmp_up_trans h ha).1 hb)⟩
  · exact ⟨.inr, fun hh => hh.elim (fun ha => Classical.byContradiction fun hb => (cmp_up_trans h hb).1 ha) id⟩
theorem fold_cmp (j : Nat) (z y : Draw) : ∀ (vs : List (List Draw)) (x : Draw), cmp (vs.foldl (fun x v => mxd x (v.getD j z)) x) y = 1 ↔ cmp x y = 1 ∨ ∃ v ∈ vs, cmp (v.getD j z) y = 1
  | [], x => by simp
  | v :: r, x => by
    rw [List.foldl_cons, fold_cmp j z y r, cmp_mxd]
    simp [or_assoc]
theorem voOk_all {l : List Voice} (h : voOk l = true) : ∀ m ∈ l, sp m = true ∧ m.vec.length = k0 l := by
  intro m hm
  unfold voOk at h
  rw [Option.isNone_iff_eq_none, List.find?_eq_none] at h
  have := h m hm
  unfold badVo at this
  simpa using this
theorem ov_merge {l : List Voice} (h : voOk l = true) (hN : ∀ m ∈ l, ∀ x ∈ m.vec, Nn x) (m : Voice) (hm : m ∈ l) : ov (mergeR (l.map (·.vec))) m = l.any fun x => ov x.vec m := by
  have hall := voOk_all h
  obtain ⟨hs, hlen⟩ := hall m hm
  obtain ⟨nd, mv⟩ := m
  obtain ⟨j, rfl, hj, hk1, hk2⟩ := sp_node hs
  simp only at hlen
  cases l with
  | nil => cases hm
  | cons m0 r =>
    have h0 := hall m0 (by simp)
    have hk : 1 ≤ k0 (m0 :: r) ∧ k0 (m0 :: r) ≤ 7 := by omega
    have hf : Fine (k0 (m0 :: r)) m0.vec := ⟨h0.2, fun x hx => hN m0 (by simp) x hx⟩
    have hr : ∀ w ∈ r.map (·.vec), w.length = k0 (m0 :: r) := by
      intro w hw
      obtain ⟨x, hx, rfl⟩ := List.mem_map.1 hw
      exact (hall x (by simp [hx])).2
    have e1 : mergeR ((m0 :: r).map (·.vec)) = (r.map (·.vec)).foldl mxv m0.vec := mergeR_fine hk hf hr
    have hr' : ∀ w ∈ r.map (·.vec), w.length = m0.vec.length := fun w hw => by rw [hr w hw, h0.2]
    have e2 : ((r.map (·.vec)).foldl mxv m0.vec).length = mv.length := by rw [foldl_length _ _ hr', h0.2, hlen]
    have hj0 : j < m0.vec.length := by rw [h0.2]; omega
    have e3 := foldl_get (r.map (·.vec)) m0.vec j hj0 hr'
    have e4 : ((r.map (·.vec)).foldl mxv m0.vec).getD j ⟨0, 0⟩ = (r.map (·.vec)).foldl (fun x v => mxd x (v.getD j ⟨0, 0⟩)) m0.vec[j] := by
      rw [List.getD_eq_getElem?_getD, e3]; rfl
    rw [e1, Bool.eq_iff_iff]
    unfold ov
    simp only [hs, e2, decide_true, Bool.true_and, Bool.and_eq_true, decide_eq_true_eq, Int.toNat_natCast, e4, cmp_pos, fold_cmp, List.any_eq_true]
    have hg0 : m0.vec.getD j ⟨0, 0⟩ = m0.vec[j] := by simp [List.getD, hj0]
    constructor
    · rintro (h1 | ⟨v, hv, h1⟩)
      · exact ⟨m0, by simp, by rw [h0.2, hlen], by rw [hg0]; exact h1⟩
      · obtain ⟨x, hx, rfl⟩ := List.mem_map.1 hv
        exact ⟨x, by simp [hx], by rw [(hall x (by simp [hx])).2, hlen], h1⟩
    · rintro ⟨x, hx, _, h1⟩
      rcases List.mem_cons.1 hx with e | e
      · subst e; rw [hg0] at h1; exact .inl h1
      · exact .inr ⟨x.vec, List.mem_map_of_mem e, h1⟩
theorem idxs_congr {f g : Voice → Bool} : ∀ (l : List Voice) (i : Nat), (∀ m ∈ l, f m = g m) → idxs f i l = idxs g i l
  | [], i, _ => rfl
  | x :: r, i, h => by
    simp only [idxs, h x (by simp), idxs_congr r (i + 1) (fun m hm => h m (by simp [hm]))]
theorem alive_same (l : List Voice) (hN : ∀ m ∈ l, ∀ x ∈ m.vec, Nn x) : aliveR l = aliveL l := by
  unfold aliveR aliveL
  cases hv : voOk l
  · rfl
  · simp only [if_true]
    refine idxs_congr l 0 fun m hm => ?_
    rw [ov_merge hv hN m hm]; rfl
theorem aliveL_len (l : List Voice) : (aliveL l).length ≤ l.length := by
  unfold aliveL
  split
  · exact idxs_len _ _ _
  · simp

def S29 (l : List Nat) (i : Nat) : St := ⟨[(0, .dat (.sl 1 true (l.map encI))), (1, .dat (.sl 1 true (l.map encI))), (5, .dat (.int .i64 i))], []⟩
theorem p29 (l : List Nat) (hl : l.length ≤ 1999998) (hn : 1999999 < n) : runFn T n (d + 1) 29 [.dat (.sl 1 true (l.map encI)), .dat (.sl 1 true (l.map encI))] [] = some (.dat (.bool true), []) := by
  have h0 : loopAt (XCode.run (runFn T n d) n 0 xf_plain_SameInts_b0) (headOf 0 xf_plain_SameInts_k0) n (S29 l 0) = some (.exit 0, ⟨[], []⟩) := by
    refine loop_for (S29 l) l.length _ (fun i hi => nextK_some ?_) ?_ (fun s h => by simp at h) n (by omega)
    · have hi' : (i : Int) < l.length := by omega
      have hw := wrap_i i (by omega)
      simp [xf_plain_SameInts_b0, xf_plain_SameInts_k0, S29, hi, hi', hw]
    · simp [xf_plain_SameInts_b0, S29]
  simp [S29, xf_plain_SameInts_k0] at h0
  rw [runFn_succ]
  simp [T, xf_plain_SameInts, xf_plain_SameInts_k0, h0]
end Go.Ax
