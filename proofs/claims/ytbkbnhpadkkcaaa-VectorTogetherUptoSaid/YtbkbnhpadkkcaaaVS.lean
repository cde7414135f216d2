/-
  Merge as a least upper bound.
-/
import Derived.Test.YtbkbnhpadkkcaaaVW
import Derived.Test.YtbkbnhpadkkcaaaVR
namespace Go.Ax

theorem mxd_idem (x : Draw) : mxd x x = x := by unfold mxd; split <;> rfl
theorem mxd_comm (x y : Draw) : mxd x y = mxd y x := by
  have h := cmp_neg x y
  unfold mxd
  rcases cmp_cases x y with e | e | e
  · rw [cmp_zero.1 e]
  · rw [if_neg (by omega), if_pos (by omega)]
  · rw [if_pos (by omega), if_neg (by omega)]
theorem mxd_or (x y : Draw) : (mxd x y = x ∧ cmp y x ≠ 1) ∨ (mxd x y = y ∧ cmp x y ≠ 1) := by
  have h := cmp_neg x y
  unfold mxd
  rcases cmp_cases x y with e | e | e
  · exact .inl ⟨by rw [if_neg (by omega)], by omega⟩
  · exact .inl ⟨by rw [if_neg (by omega)], by omega⟩
  · exact .inr ⟨by rw [if_pos (by omega)], by omega⟩
theorem mxd_left {x y : Draw} (h : cmp y x ≠ 1) : mxd x y = x := by
  have := cmp_neg x y
  unfold mxd
  rcases cmp_cases x y with e | e | e
  · rw [if_neg (by omega)]
  · rw [if_neg (by omega)]
  · exact absurd (by omega) h
theorem mxd_right {x y : Draw} (h : cmp x y ≠ 1) : mxd x y = y := by rw [mxd_comm]; exact mxd_left h
theorem mxd_assoc (x y z : Draw) : mxd (mxd x y) z = mxd x (mxd y z) := by
  rcases mxd_or x y with ⟨e1, h1⟩ | ⟨e1, h1⟩ <;> rcases mxd_or y z with ⟨e2, h2⟩ | ⟨e2, h2⟩ <;> rw [e1, e2]
  · rw [e1]; exact mxd_left (cmp_up_trans h2 h1).1
  · exact e1.symm
  · exact (mxd_right (cmp_up_trans h1 h2).1).symm

theorem mxv_comm (a b : List Draw) : mxv a b = mxv b a := by
  unfold mxv
  rw [List.zipWith_comm]
  congr 1
  funext x y
  exact mxd_comm y x
theorem mxv_assoc : ∀ a b c : List Draw, mxv (mxv a b) c = mxv a (mxv b c)
  | [], _, _ => by simp [mxv]
  | _ :: _, [], _ => by simp [mxv]
  | _ :: _, _ :: _, [] => by simp [mxv]
  | x :: a, y :: b, z :: c => by
    have := mxv_assoc a b c
    simp only [mxv] at this
    simp only [mxv, List.zipWith_cons_cons, mxd_assoc, this]
theorem mxv_idem : ∀ a : List Draw, mxv a a = a
  | [] => rfl
  | x :: a => by
    have := mxv_idem a
    simp only [mxv] at this
    simp only [mxv, List.zipWith_cons_cons, mxd_idem, this]
theorem mxv_zero : ∀ a : List Draw, (∀ x ∈ a, Nn x) → mxv (List.replicate a.length ⟨0, 0⟩) a = a
  | [], _ => rfl
  | x :: a, h => by
    have := mxv_zero a (fun y hy => h y (by simp [hy]))
    simp only [mxv] at this
    simp only [mxv, List.length_cons, List.replicate_succ, List.zipWith_cons_cons, mxd_zero (h x (by simp)), this]
theorem mxv_nn {a b : List Draw} (ha : ∀ x ∈ a, Nn x) (hb : ∀ x ∈ b, Nn x) : ∀ x ∈ mxv a b, Nn x := by
  intro x hx
  unfold mxv at hx
  rw [List.mem_iff_getElem] at hx
  obtain ⟨i, hi, rfl⟩ := hx
  rw [List.getElem_zipWith]
  simp at hi
  rcases mxd_or (a[i]'(by omega)) (b[i]'(by omega)) with ⟨e, _⟩ | ⟨e, _⟩ <;> rw [e]
  · exact ha _ (List.getElem_mem _)
  · exact hb _ (List.getElem_mem _)

/-- Vectors that may be merged. -/
structure Fine (k : Nat) (v : List Draw) : Prop where
  len : v.length = k
  nn : ∀ x ∈ v, Nn x
theorem Fine.mx {k : Nat} {a b : List Draw} (ha : Fine k a) (hb : Fine k b) : Fine k (mxv a b) := ⟨by rw [mxv_length (by rw [ha.len, hb.len]), ha.len], mxv_nn ha.nn hb.nn⟩
theorem not_badl {k : Nat} (hk : 1 ≤ k ∧ k ≤ 7) {v : List Draw} {r : List (List Draw)} (hv : v.length = k) (h : ∀ w ∈ r, w.length = k) : ¬ badl (v :: r) := by
  rintro (h1 | ⟨w, hw, hb⟩)
  · cases h1
  · have hl : w.length = k := by
      rcases List.mem_cons.1 hw with e | e
      · rw [e]; exact hv
      · exact h w e
    simp only [List.headD_cons, badv] at hb
    omega
theorem mergeR_fine {k : Nat} (hk : 1 ≤ k ∧ k ≤ 7) {v : List Draw} {r : List (List Draw)} (hv : Fine k v) (h : ∀ w ∈ r, w.length = k) : mergeR (v :: r) = r.foldl mxv v := by
  unfold mergeR
  rw [if_neg (not_badl hk hv.len h)]
  show (v :: r).foldl mxv (List.replicate v.length ⟨0, 0⟩) = _
  rw [List.foldl_cons, mxv_zero v hv.nn]
theorem mergeE_fine {k : Nat} (hk : 1 ≤ k ∧ k ≤ 7) {v : List Draw} {r : List (List Draw)} (hv : v.length = k) (h : ∀ w ∈ r, w.length = k) : mergeE (v :: r) = 0 := by
  unfold mergeE
  rw [if_neg (not_badl hk hv h)]
theorem merge_bad {l : List (List Draw)} (h : badl l) : mergeR l = [] ∧ mergeE l = 30 := ⟨if_pos h, if_pos h⟩

theorem ge_iff {k : Nat} {a b : List Draw} (ha : a.length = k) (hb : b.length = k) : (rel a b = 1 ∨ rel a b = 3) ↔ mxv a b = a := by
  have hl : a.length = b.length := by omega
  have e1 : (rel a b = 1 ∨ rel a b = 3) ↔ ¬ Dn a b := by
    rcases rel_cases a b with ⟨l, e⟩ | ⟨l, u, v, e⟩ | ⟨l, u, v, e⟩ | ⟨l, u, v, e⟩ | ⟨l, u, v, e⟩
    · exact absurd hl l
    all_goals simp [e, v]
  rw [e1]
  constructor
  · intro h
    refine List.ext_getElem (mxv_length hl) fun i h1 h2 => ?_
    simp only [mxv, List.getElem_zipWith]
    refine mxd_left fun e => h ⟨i, h2, by omega, ?_⟩
    have := cmp_neg (b[i]'(by omega)) a[i]
    omega
  · rintro h ⟨i, h1, h2, e⟩
    have h3 : (mxv a b)[i]'(by rw [mxv_length hl]; exact h1) = a[i] := by simp only [h]
    simp only [mxv, List.getElem_zipWith, mxd] at h3
    rw [if_pos (by omega)] at h3
    rw [cmp_zero.2 h3.symm] at e
    cases e
theorem le_iff {k : Nat} {a b : List Draw} (ha : a.length = k) (hb : b.length = k) : (rel a b = 1 ∨ rel a b = 2) ↔ mxv a b = b := by
  rw [mxv_comm, ← ge_iff hb ha, rel_sym a b]
  by_cases h2 : rel a b = 2
  · simp [h2]
  · by_cases h3 : rel a b = 3
    · simp [h3]
    · simp [h2, h3]
theorem above_iff {k : Nat} {a b c : List Draw} (ha : a.length = k) (hb : b.length = k) (hc : c.length = k) :
    ((rel c a = 1 ∨ rel c a = 3) ∧ (rel c b = 1 ∨ rel c b = 3)) ↔ (rel c (mxv a b) = 1 ∨ rel c (mxv a b) = 3) := by
  rw [ge_iff hc ha, ge_iff hc hb, ge_iff hc (k := k) (by rw [mxv_length (by omega), ha])]
  constructor
  · rintro ⟨h1, h2⟩
    rw [← mxv_assoc, h1, h2]
  · intro h
    constructor
    · have : mxv (mxv c (mxv a b)) a = mxv c (mxv a b) := by
        rw [mxv_assoc, mxv_comm (mxv a b) a, ← mxv_assoc a a b, mxv_idem]
      rw [h] at this; exact this
    · have : mxv (mxv c (mxv a b)) b = mxv c (mxv a b) := by
        rw [mxv_assoc, mxv_assoc a b b, mxv_idem]
      rw [h] at this; exact this

end Go.Ax
