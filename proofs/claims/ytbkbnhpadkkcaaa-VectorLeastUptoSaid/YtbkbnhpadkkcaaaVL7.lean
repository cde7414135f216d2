/-
  VectorLeast, evaluated.
-/
import Derived.Test.YtbkbnhpadkkcaaaVS
import Derived.Test.YtbkbnhpadkkcaaaVAl
namespace Go.Ax
set_option maxRecDepth 10000
set_option maxHeartbeats 4000000
set_option linter.unusedSimpArgs false

theorem law7 (a b c : List Draw) (ha : a.length ≤ 1048576) (hb : b.length ≤ 1048576) (hc : c.length ≤ 1048576) (na : ∀ x ∈ a, Nn x) (nb : ∀ x ∈ b, Nn x) (nc : ∀ x ∈ c, Nn x) :
    ∃ H, runFn T 2000001 9 7 [.dat (encV a), .dat (encV b), .dat (encV c)] [] = some (.dat (.bool true), H) := by
  have hal := alive_ok
  have hm := fun l hl => p20 (n := 2000001) (d := 6) l hl (by omega)
  have hs := fun a b ha => p16 (n := 2000001) (d := 7) a b ha (by omega)
  have hr := fun a b ha => p22 (n := 2000001) (d := 6) a b ha (by omega)
  have hk := fun k => p15 (n := 2000001) (d := 7) k
  have m1 := hm [a, b] (by simp)
  have m2 := hm [b, a] (by simp)
  refine ⟨[], ?_⟩
  rw [runFn_succ]
  by_cases hok : (1 ≤ a.length ∧ a.length ≤ 7) ∧ b.length = a.length
  · obtain ⟨h17, hba⟩ := hok
    have fa : Fine a.length a := ⟨rfl, na⟩
    have fb : Fine a.length b := ⟨hba, nb⟩
    have r1 : mergeR [a, b] = mxv a b := mergeR_fine h17 fa (by simp [hba])
    have r2 : mergeR [b, a] = mxv a b := by rw [mergeR_fine h17 fb (by simp)]; exact mxv_comm b a
    have e1 : mergeE [a, b] = 0 := mergeE_fine h17 rfl (by simp [hba])
    have e2 : mergeE [b, a] = 0 := mergeE_fine h17 hba (by simp)
    rw [r1, e1] at m1; rw [r2, e2] at m2
    have fab := fa.mx fb
    have hlab := fab.len
    have m3 := hm [mxv a b, b, a, mxv a b] (by simp)
    have r3 : mergeR [mxv a b, b, a, mxv a b] = mxv a b := by
      rw [mergeR_fine h17 fab (by simp [hba, hlab])]
      show mxv (mxv (mxv (mxv a b) b) a) (mxv a b) = mxv a b
      rw [mxv_assoc a b b, mxv_idem b, mxv_comm (mxv a b) a, ← mxv_assoc a a b, mxv_idem a, mxv_idem]
    have e3 : mergeE [mxv a b, b, a, mxv a b] = 0 := mergeE_fine h17 hlab (by simp [hba, hlab])
    rw [r3, e3] at m3
    have s1 := hs (mxv a b) (mxv a b) (by omega)
    simp at s1
    have q1 := hr a (mxv a b) (by omega)
    have q2 := hr b (mxv a b) (by omega)
    have w1 : rel a (mxv a b) = 1 ∨ rel a (mxv a b) = 2 := (le_iff rfl hlab).2 (by rw [← mxv_assoc, mxv_idem])
    have w2 : rel b (mxv a b) = 1 ∨ rel b (mxv a b) = 2 := (le_iff hba hlab).2 (by rw [mxv_comm a b, ← mxv_assoc, mxv_idem])
    have m4 := hm [b, c] (by simp)
    have m5 := hm [a, b, c] (by simp)
    have m6 := hm [mxv a b, c] (by simp)
    have hab' : (b.length : Int) = a.length := by omega
    by_cases hca : c.length = a.length
    · have fc : Fine a.length c := ⟨hca, nc⟩
      have r4 : mergeR [b, c] = mxv b c := mergeR_fine h17 fb (by simp [hca])
      have e4 : mergeE [b, c] = 0 := mergeE_fine h17 hba (by simp [hca])
      have m7 := hm [a, mxv b c] (by simp)
      have r5 : mergeR [a, b, c] = mxv (mxv a b) c := mergeR_fine h17 fa (by simp [hba, hca])
      have e5 : mergeE [a, b, c] = 0 := mergeE_fine h17 rfl (by simp [hba, hca])
      have r6 : mergeR [mxv a b, c] = mxv (mxv a b) c := mergeR_fine h17 fab (by simp [hca])
      have e6 : mergeE [mxv a b, c] = 0 := mergeE_fine h17 hlab (by simp [hca])
      have hlbc := (fb.mx fc).len
      have r7 : mergeR [a, mxv b c] = mxv (mxv a b) c := by rw [mergeR_fine h17 fa (by simp [hlbc]), mxv_assoc]; rfl
      have e7 : mergeE [a, mxv b c] = 0 := mergeE_fine h17 rfl (by simp [hlbc])
      rw [r4, e4] at m4; rw [r5, e5] at m5; rw [r6, e6] at m6; rw [r7, e7] at m7
      have hlabc := (fab.mx fc).len
      have s2 := hs (mxv (mxv a b) c) (mxv (mxv a b) c) (by omega)
      simp at s2
      have q3 := hr c a (by omega)
      have q4 := hr c b (by omega)
      have q5 := hr c (mxv a b) (by omega)
      have ab := above_iff rfl hba hca
      have hca' : (c.length : Int) = a.length := by omega
      simp only [encL, List.map_cons, List.map_nil] at m1 m2 m3 m4 m5 m6 m7
      have k0 := hk 0
      generalize rel a (mxv a b) = x1 at q1 w1
      generalize rel b (mxv a b) = x2 at q2 w2
      generalize rel c a = x3 at q3 ab
      generalize rel c b = x4 at q4 ab
      generalize rel c (mxv a b) = x5 at q5 ab
      rcases w1 with rfl | rfl <;> rcases w2 with rfl | rfl <;> simp [T, xf_law03_VectorLeast, hal, m1, m2, m3, m4, m5, m6, m7, k0, s1, s2, q1, q2, q3, q4, q5, hca']
      all_goals exact ⟨by decide, by rw [Bool.eq_iff_iff]; simpa using ab⟩
    · have b4 : badl [b, c] := .inr ⟨c, by simp, .inr (fun h => hca (by simp at h; omega))⟩
      have b5 : badl [a, b, c] := .inr ⟨c, by simp, .inr (fun h => hca h)⟩
      have b6 : badl [mxv a b, c] := .inr ⟨c, by simp, .inr (fun h => hca (by simp at h; omega))⟩
      have b7 : badl [a, []] := .inr ⟨[], by simp, .inl (by simp)⟩
      have m7 := hm [a, []] (by simp)
      rw [(merge_bad b4).1, (merge_bad b4).2] at m4
      rw [(merge_bad b5).1, (merge_bad b5).2] at m5
      rw [(merge_bad b6).1, (merge_bad b6).2] at m6
      rw [(merge_bad b7).1, (merge_bad b7).2] at m7
      have hca' : ¬ (c.length : Int) = a.length := by omega
      simp only [encL, List.map_cons, List.map_nil] at m1 m2 m3 m4 m5 m6 m7
      have k0 := hk 0
      have k3 := hk 30
      generalize rel a (mxv a b) = x1 at q1 w1
      generalize rel b (mxv a b) = x2 at q2 w2
      rcases w1 with rfl | rfl <;> rcases w2 with rfl | rfl <;> simp [T, xf_law03_VectorLeast, hal, m1, m2, m3, m4, m5, m6, m7, k0, k3, s1, q1, q2, hca']
  · have e1 : badl [a, b] := by
      by_cases h1 : 1 ≤ a.length ∧ a.length ≤ 7
      · exact .inr ⟨b, by simp, .inr (fun h => hok ⟨h1, h⟩)⟩
      · exact .inr ⟨a, by simp, .inl h1⟩
    have e2 : badl [b, a] := by
      by_cases h1 : 1 ≤ a.length ∧ a.length ≤ 7
      · exact .inr ⟨a, by simp, .inr (fun h => hok ⟨h1, h.symm⟩)⟩
      · exact .inr ⟨a, by simp, .inl h1⟩
    rw [(merge_bad e1).1, (merge_bad e1).2] at m1
    rw [(merge_bad e2).1, (merge_bad e2).2] at m2
    have s0 := hs [] [] (by simp)
    simp at s0
    simp only [encL, List.map_cons, List.map_nil] at m1 m2
    have k3 := hk 30
    simp [T, xf_law03_VectorLeast, hal, m1, m2, k3, s0]
    omega

end Go.Ax
