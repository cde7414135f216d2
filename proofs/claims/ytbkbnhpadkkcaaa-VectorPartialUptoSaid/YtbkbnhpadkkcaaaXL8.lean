/-
  VectorPartial, evaluated.
-/
import Derived.Test.YtbkbnhpadkkcaaaXR
import Derived.Test.YtbkbnhpadkkcaaaXAl
namespace Go.Ax
set_option maxRecDepth 10000

theorem law8 (a b c : List Draw) (ha : a.length ≤ 1048576) (hb : b.length ≤ 1048576) : ∃ H, runFn T 1048578 9 8 [.dat (encV a), .dat (encV b), .dat (encV c)] [] = some (.dat (.bool true), H) := by
  have hal := alive_ok
  have h1 := p22 (n := 1048578) (d := 6) a b (by omega) (by omega)
  have h2 := p22 (n := 1048578) (d := 6) b a (by omega) (by omega)
  have h3 := p22 (n := 1048578) (d := 6) b c (by omega) (by omega)
  have h4 := p22 (n := 1048578) (d := 6) a c (by omega) (by omega)
  have h5 := p22 (n := 1048578) (d := 6) a a (by omega) (by omega)
  have h6 := p16 (n := 1048578) (d := 7) a b (by omega) (by omega)
  have hs := rel_sym a b
  rw [rel_self] at h5
  have ht := fun h => rel_trans (a := a) (b := b) (c := c) h
  refine ⟨[], ?_⟩
  rw [runFn]
  rcases rel_cases a b with ⟨l, e⟩ | ⟨l, u, v, e⟩ | ⟨l, u, v, e⟩ | ⟨l, u, v, e⟩ | ⟨l, u, v, e⟩
  · have hne : ¬ a = b := fun h => l (by rw [h])
    have l' : ¬ (a.length : Int) = b.length := by omega
    simp [e] at hs
    simp [hne] at h6
    rw [e] at h1; rw [hs] at h2
    simp [T, xf8, hal, h1, h2, h3, h4, h5, h6, l']
  · have hne : ¬ a = b := fun h => ((same_iff l).2 h).1 u
    have l' : (b.length : Int) = a.length := by omega
    simp [e] at hs
    simp [hne] at h6
    rw [e] at h1; rw [hs] at h2
    simp [T, xf8, hal, h1, h2, h3, h4, h5, h6, l']
  · have hne : ¬ a = b := fun h => ((same_iff l).2 h).1 u
    have l' : (b.length : Int) = a.length := by omega
    simp [e] at hs
    simp [hne] at h6
    rw [e] at h1; rw [hs] at h2
    simp [T, xf8, hal, h1, h2, h3, h4, h5, h6, l']
  · have hne : ¬ a = b := fun h => ((same_iff l).2 h).2 v
    have l' : (b.length : Int) = a.length := by omega
    simp [e] at hs
    simp [hne] at h6
    rw [e] at h1; rw [hs] at h2
    by_cases b2 : rel b c = 2
    · rw [ht e (.inl b2)] at h4
      rw [b2] at h3
      simp [T, xf8, hal, h1, h2, h3, h4, h5, h6, l']
    · by_cases b1 : rel b c = 1
      · rw [ht e (.inr b1)] at h4
        rw [b1] at h3
        simp [T, xf8, hal, h1, h2, h3, h4, h5, h6, l']
      · simp [T, xf8, hal, h1, h2, h3, h4, h5, h6, l', b1, b2]
  · have heq : a = b := (same_iff l).1 ⟨u, v⟩
    have l' : (b.length : Int) = a.length := by omega
    simp [e] at hs
    simp [heq] at h6
    rw [e] at h1; rw [hs] at h2
    subst heq
    simp [T, xf8, hal, h1, h3, h6]

end Go.Ax
