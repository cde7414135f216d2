/-
  The relation of vectors is an order in part.
-/
import Derived.Test.YtbkbnhpadkkcaaaVC
namespace Go.Ax

theorem upTo_true {a b : List Draw} (hl : a.length = b.length) {v : Int} {k : Nat} (hk : k ≤ a.length) : upTo a b v k = true ↔ ∃ i, ∃ h : i < a.length, ∃ h' : i < b.length, i < k ∧ cmp a[i] b[i] = v := by
  induction k with
  | zero => simp [upTo_zero]
  | succ k ih =>
    rw [upTo_succ hl (by omega) (by omega)]
    simp only [Bool.or_eq_true, ih (by omega), decide_eq_true_eq]
    constructor
    · rintro (⟨i, h, h', h1, h2⟩ | h)
      · exact ⟨i, h, h', by omega, h2⟩
      · exact ⟨k, by omega, by omega, by omega, h⟩
    · rintro ⟨i, h, h', h1, h2⟩
      by_cases e : i = k
      · subst e; exact .inr h2
      · exact .inl ⟨i, h, h', by omega, h2⟩

theorem cmp_zero {x y : Draw} : cmp x y = 0 ↔ x = y := by
  unfold cmp; split
  · rename_i h; simp [h]
  · rename_i h; split <;> simp [h]

/-- Places where one is above, below. -/
def Up (a b : List Draw) : Prop := ∃ i, ∃ h : i < a.length, ∃ h' : i < b.length, cmp a[i] b[i] = 1
def Dn (a b : List Draw) : Prop := ∃ i, ∃ h : i < a.length, ∃ h' : i < b.length, cmp a[i] b[i] = -1
theorem up_iff {a b : List Draw} (hl : a.length = b.length) : upTo a b 1 a.length = true ↔ Up a b := by
  rw [upTo_true hl (Nat.le_refl _)]
  exact ⟨fun ⟨i, h, h', _, e⟩ => ⟨i, h, h', e⟩, fun ⟨i, h, h', e⟩ => ⟨i, h, h', h, e⟩⟩
theorem dn_iff {a b : List Draw} (hl : a.length = b.length) : upTo a b (-1) a.length = true ↔ Dn a b := by
  rw [upTo_true hl (Nat.le_refl _)]
  exact ⟨fun ⟨i, h, h', _, e⟩ => ⟨i, h, h', e⟩, fun ⟨i, h, h', e⟩ => ⟨i, h, h', h, e⟩⟩
theorem up_dn {a b : List Draw} : Up b a ↔ Dn a b := by
  constructor
  · rintro ⟨i, h, h', e⟩
    exact ⟨i, h', h, by have := cmp_neg b[i] a[i]; omega⟩
  · rintro ⟨i, h, h', e⟩
    exact ⟨i, h', h, by have := cmp_neg a[i] b[i]; omega⟩

/-- The five ways. -/
theorem rel_cases (a b : List Draw) : (a.length ≠ b.length ∧ rel a b = 0) ∨ (a.length = b.length ∧ Up a b ∧ Dn a b ∧ rel a b = 4) ∨ (a.length = b.length ∧ Up a b ∧ ¬ Dn a b ∧ rel a b = 3) ∨ (a.length = b.length ∧ ¬ Up a b ∧ Dn a b ∧ rel a b = 2) ∨
    (a.length = b.length ∧ ¬ Up a b ∧ ¬ Dn a b ∧ rel a b = 1) := by
  by_cases hl : a.length = b.length
  · refine .inr ?_
    have h1 := up_iff hl
    have h2 := dn_iff hl
    unfold rel
    rw [if_pos hl]
    cases hu : upTo a b 1 a.length <;> cases hd : upTo a b (-1) a.length <;> simp [hu] at h1 <;> simp [hd] at h2 <;> simp [hl, h1, h2]
  · exact .inl ⟨hl, by simp [rel, hl]⟩

theorem same_iff {a b : List Draw} (hl : a.length = b.length) : (¬ Up a b ∧ ¬ Dn a b) ↔ a = b := by
  constructor
  · rintro ⟨h1, h2⟩
    refine List.ext_getElem hl fun i h h' => ?_
    rcases cmp_cases a[i] b[i] with e | e | e
    · exact cmp_zero.1 e
    · exact absurd ⟨i, h, h', e⟩ h1
    · exact absurd ⟨i, h, h', e⟩ h2
  · rintro rfl
    have h0 : ∀ x : Draw, cmp x x = 0 := fun x => cmp_zero.2 rfl
    refine ⟨?_, ?_⟩
    · rintro ⟨i, h, h', e⟩
      rw [h0] at e; cases e
    · rintro ⟨i, h, h', e⟩
      rw [h0] at e; cases e

theorem rel_self (a : List Draw) : rel a a = 1 := by
  have h := (same_iff (a := a) (b := a) rfl).2 rfl
  rcases rel_cases a a with ⟨e, _⟩ | ⟨_, u, _⟩ | ⟨_, u, _⟩ | ⟨_, _, u, _⟩ | ⟨_, _, _, e⟩
  · exact absurd rfl e
  · exact absurd u h.1
  · exact absurd u h.1
  · exact absurd u h.2
  · exact e

theorem rel_sym (a b : List Draw) : rel b a = if rel a b = 2 then 3 else if rel a b = 3 then 2 else rel a b := by
  by_cases hl : a.length = b.length
  · have e1 : upTo b a 1 b.length = upTo a b (-1) a.length := Bool.eq_iff_iff.2 ((up_iff hl.symm).trans ((up_dn (a := a) (b := b)).trans (dn_iff hl).symm))
    have e2 : upTo b a (-1) b.length = upTo a b 1 a.length := Bool.eq_iff_iff.2 ((dn_iff hl.symm).trans ((up_dn (a := b) (b := a)).symm.trans (up_iff hl).symm))
    unfold rel
    rw [if_pos hl, if_pos hl.symm, e1, e2]
    cases upTo a b 1 a.length <;> cases upTo a b (-1) a.length <;> rfl
  · have hl' : ¬ b.length = a.length := fun h => hl h.symm
    simp [rel, hl, hl']

theorem cmp_up_trans {x y z : Draw} (h1 : cmp x y ≠ 1) (h2 : cmp y z ≠ 1) : cmp x z ≠ 1 ∧ (cmp x z = 0 → cmp x y = 0 ∧ cmp y z = 0) := by
  cases x with
  | mk a b => cases y with
    | mk c e => cases z with
      | mk f g =>
        simp only [cmp, Draw.mk.injEq, ne_eq] at *
        constructor
        · intro h
          split at h
          · cases h
          · split at h
            · cases h
            · split at h1 <;> split at h2 <;> (try split at h1) <;> (try split at h2) <;> first | omega | (simp at h1; done) | (simp at h2; done)
        · intro h
          split at h
          · split at h1 <;> split at h2 <;> (try split at h1) <;> (try split at h2) <;> first | (simp_all; omega) | (simp at h1; done) | (simp at h2; done) | (simp_all; done)
          · split at h <;> cases h

/-- Below, then below or the same, is below. -/
theorem rel_trans {a b c : List Draw} (h1 : rel a b = 2) (h2 : rel b c = 2 ∨ rel b c = 1) : rel a c = 2 := by
  have ha : a.length = b.length ∧ ¬ Up a b ∧ Dn a b := by
    rcases rel_cases a b with ⟨l, e⟩ | ⟨l, u, v, e⟩ | ⟨l, u, v, e⟩ | ⟨l, u, v, e⟩ | ⟨l, u, v, e⟩
    · rw [h1] at e; cases e
    · rw [h1] at e; cases e
    · rw [h1] at e; cases e
    · exact ⟨l, u, v⟩
    · rw [h1] at e; cases e
  have hb : b.length = c.length ∧ ¬ Up b c := by
    rcases rel_cases b c with ⟨l, e⟩ | ⟨l, u, v, e⟩ | ⟨l, u, v, e⟩ | ⟨l, u, v, e⟩ | ⟨l, u, v, e⟩
    · rw [e] at h2; simp at h2
    · rw [e] at h2; simp at h2
    · rw [e] at h2; simp at h2
    · exact ⟨l, u⟩
    · exact ⟨l, u⟩
  obtain ⟨la, ua, i, hi, hi', da⟩ := ha
  obtain ⟨lb, ub⟩ := hb
  have hne : ∀ j (h : j < a.length) (h' : j < b.length) (h'' : j < c.length), cmp a[j] c[j] ≠ 1 ∧ (cmp a[j] c[j] = 0 → cmp a[j] b[j] = 0 ∧ cmp b[j] c[j] = 0) := fun j h h' h'' =>
    cmp_up_trans (fun e => ua ⟨j, h, h', e⟩) (fun e => ub ⟨j, h', h'', e⟩)
  have hU : ¬ Up a c := fun ⟨j, h, h'', e⟩ => (hne j h (by omega) h'').1 e
  have hD : Dn a c := by
    refine ⟨i, hi, by omega, ?_⟩
    have := hne i hi hi' (by omega)
    rcases cmp_cases a[i] c[i] with e | e | e
    · have := (this.2 e).1; omega
    · exact absurd e this.1
    · exact e
  rcases rel_cases a c with ⟨l, e⟩ | ⟨l, u, v, e⟩ | ⟨l, u, v, e⟩ | ⟨l, u, v, e⟩ | ⟨l, u, v, e⟩
  · exact absurd (la.trans lb) l
  · exact absurd u hU
  · exact absurd u hU
  · exact e
  · exact absurd hD v

end Go.Ax
