/-
  VectorVoices, evaluated.
-/
import Derived.Test.YtbkbnhpadkkcaaaV9
import Derived.Test.YtbkbnhpadkkcaaaVAl
namespace Go.Ax
set_option maxRecDepth 10000
set_option linter.unusedSimpArgs false
set_option maxHeartbeats 4000000

theorem law5 (l : List Voice) (v : List Draw) (m : Voice) (hv : ∀ m ∈ l, m.vec.length ≤ 1048576) (hll : l.length ≤ 1048576) (hN : ∀ m ∈ l, ∀ x ∈ m.vec, Nn x) (hvl : v.length ≤ 1048576) (hm : m.vec.length ≤ 1048576) :
    ∃ H, runFn T 2000001 9 5 [.dat (encVos l), .dat (encV v), .dat (encVo m)] [] = some (.dat (.bool true), H) := by
  have hal := alive_ok
  have g1 := p24 (n := 2000001) (d := 5) l hv hll (by omega)
  have h25 := p25 (n := 2000001) (d := 4) l (by omega) (by omega)
  have h26 := p26 (n := 2000001) (d := 4) l (by omega) (by omega)
  have h27 := p27 (n := 2000001) (d := 4) l (by omega) (by omega)
  have h28 := p28 (n := 2000001) (d := 4) l (by omega) (by omega)
  rw [alive_same l hN] at h28
  have h29 := p29 (n := 2000001) (d := 7) (aliveL l) (by have := aliveL_len l; omega) (by omega)
  have h15 := p15 (n := 2000001) (d := 7) (voErr l)
  have h30 := p30 (n := 2000001) (d := 5) v m
  have h31 := p31 (n := 2000001) (d := 5) v m
  rw [runFn_succ]
  cases l with
  | nil =>
    have g2 := p24x (n := 2000001) (d := 5) m hm (by omega)
    have g3 := p10g (n := 2000001) (d := 6) [m.vec] (by simp) (by simp) v hvl
    have g4 := p19g (n := 2000001) (d := 6) [m.vec, v] (by simp) (by simp [hm, hvl]) (by omega)
    simp [gbox, gvH, vs] at g1 g2 g3 g4
    simp only [encVos, List.map_cons, List.map_nil] at h25 h27
    simp [T, xf_law03_VectorVoices, g1, g2, g3, g4, h25, h26, h27, h28, h29, h15, h30, h31, hal]
  | cons x r =>
    have g2 := p24onex (n := 2000001) (d := 5) (vs (x :: r)) (by simp [vs]) (by simp [vs] at hll ⊢; omega) m hm (by omega)
    have g3 := p10g (n := 2000001) (d := 6) (vs (x :: r) ++ [m.vec]) (by simp [vs]) (by simp [vs] at hll ⊢; omega) v hvl
    have g4 := p19g (n := 2000001) (d := 6) (vs (x :: r) ++ [m.vec, v]) (by simp [vs] at hll ⊢; omega) (by
      intro w hw
      rcases List.mem_append.1 hw with h | h
      · obtain ⟨y, hy, rfl⟩ := List.mem_map.1 h
        exact hv y hy
      · simp at h
        rcases h with rfl | rfl
        · exact hm
        · exact hvl) (by omega)
    simp [gbox, gvH, vs] at g1 g2 g3 g4
    simp only [encVos, List.map_cons, List.map_nil] at h25 h27
    simp [T, xf_law03_VectorVoices, g1, g2, g3, g4, h25, h26, h27, h28, h29, h15, h30, h31, hal]
end Go.Ax
