/-
  VectorTogether, evaluated.
-/
import Derived.Test.YtbkbnhpadkkcaaaV12
import Derived.Test.YtbkbnhpadkkcaaaVAl
namespace Go.Ax
set_option maxRecDepth 10000
set_option linter.unusedSimpArgs false
set_option maxHeartbeats 4000000

theorem liveOf_nil (b : List Bool) : liveOf b [] = b := rfl
theorem lastI_nil : lastI [] = -1 := rfl
theorem consI_none {l : List Voice} (hv : voOk l = true) (h : goC l 0 l = none) : consI l = -1 := by simp [consI, hv, h]
theorem consI_some {l : List Voice} (hv : voOk l = true) {p : Nat × Nat} (h : goC l 0 l = some p) : consI l ≠ -1 := by simp [consI, hv, h]
theorem voErr_ok {l : List Voice} (hv : voOk l = true) : voErr l = 0 := by simp [voErr, hv]

theorem law6 (l : List Voice) (bs : List Bool) (hll : l.length ≤ 1048576) (hN : ∀ m ∈ l, ∀ x ∈ m.vec, Nn x) :
    ∃ H, runFn T 2000001 9 6 [.dat (encVos l), .dat (encBs bs)] [] = some (.dat (.bool true), H) := by
  have hal := alive_ok
  have h25 := p25 (n := 2000001) (d := 4) l (by omega) (by omega)
  have h27 := p27 (n := 2000001) (d := 4) l (by omega) (by omega)
  have k0 := p15 (n := 2000001) (d := 7) 0
  have k30 := p15 (n := 2000001) (d := 7) 30
  refine ⟨[], ?_⟩
  rw [runFn_succ]
  cases hv : voOk l
  · have e1 : voErr l = 30 := by simp [voErr, hv]
    have e2 : aliveL l = [] := by simp [aliveL, hv]
    rw [e1] at h25 h27
    rw [e2] at h27
    simp [T, xf_law03_VectorTogether, hal, h25, h27, k30]
  · have e1 := voErr_ok hv
    have e2 : aliveL l = idxs (fun m => !ov (mergeR (l.map (·.vec))) m) 0 l := by simp [aliveL, hv]
    have hov := fun m hm => ov_merge hv hN m hm
    rw [e1] at h25 h27
    rw [e2] at h27
    have hJ := idxs_pair (fun m => !ov (mergeR (l.map (·.vec))) m) l 0
    have hJ2 : ∀ j ∈ idxs (fun m => !ov (mergeR (l.map (·.vec))) m) 0 l, j < l.length := fun j hj => by
      obtain ⟨k, h, e, _⟩ := (mem_idxs _ j l 0).1 hj
      omega
    have hJl := idxs_len (fun m => !ov (mergeR (l.map (·.vec))) m) l 0
    have h60 := l60 (runFn T 2000001 8) l _ hJ hJ2 (by omega) (n := 2000001) (by omega)
    rw [liveOf_map] at h60
    simp only [S60, liveOf_nil, lastI_nil, List.length_nil, Int.natCast_zero, List.map_replicate, xf_law03_VectorTogether_k0] at h60
    have hQ := p33 (n := 2000001) (d := 7) l bs (by omega) (by omega)
    have hQm : ∀ m ∈ partL l bs, m ∈ l := fun m hm => partL_mem hm
    have hQv := voOk_part hv hQm
    have hQl := partL_len l bs
    have hQ25 := p25 (n := 2000001) (d := 4) (partL l bs) (by omega) (by omega)
    rw [voErr_ok hQv] at hQ25
    have hR := p33 (n := 2000001) (d := 7) l (l.map fun m => !ov (mergeR (l.map (·.vec))) m) (by omega) (by omega)
    rw [partL_map] at hR
    have hRm : ∀ m ∈ l.filter (fun m => !ov (mergeR (l.map (·.vec))) m), m ∈ l := fun m hm => (List.mem_filter.1 hm).1
    have hRv := voOk_part hv hRm
    have hRl : (l.filter (fun m => !ov (mergeR (l.map (·.vec))) m)).length ≤ l.length := List.length_filter_le _ _
    have hR25 := p25 (n := 2000001) (d := 4) (l.filter (fun m => !ov (mergeR (l.map (·.vec))) m)) (by omega) (by omega)
    have hRc : goC (l.filter (fun m => !ov (mergeR (l.map (·.vec))) m)) 0 (l.filter (fun m => !ov (mergeR (l.map (·.vec))) m)) = none := by
      rw [goC_none]
      intro m hm x hx
      have h1 := List.mem_filter.1 hm
      have h2 := h1.2
      rw [hov m h1.1] at h2
      simp at h2
      exact h2 x (hRm x hx)
    rw [voErr_ok hRv, consI_none hRv hRc] at hR25
    have hall : goC l 0 l = none ↔ (idxs (fun m => !ov (mergeR (l.map (·.vec))) m) 0 l).length = l.length := by
      rw [goC_none, idxs_all]
      constructor
      · intro h m hm
        rw [hov m hm]
        simp
        exact h m hm
      · intro h m hm x hx
        have := h m hm
        rw [hov m hm] at this
        simp at this
        exact this x hx
    have h61 := l61 (runFn T 2000001 8) l (l.map fun m => !ov (mergeR (l.map (·.vec))) m) (by omega) (n := 2000001) (by omega)
    have h62 := l62 (d := 5) l (mergeR (l.map (·.vec))) (by omega) (n := 2000001) (by omega)
    have h20 := p20 (n := 2000001) (d := 6) (l.map (·.vec)) (by simp; omega) (by omega)
    simp only [encL, List.map_map] at h20
    have hcomp : (encV ∘ fun m : Voice => m.vec) = fun m : Voice => encV m.vec := rfl
    rw [hcomp] at h20
    have hE : l ≠ [] → mergeE (l.map (·.vec)) = 0 := by
      intro hne
      cases l with
      | nil => exact absurd rfl hne
      | cons m0 r =>
        have ha := voOk_all hv
        have h0 := ha m0 (by simp)
        have hs0 := h0.1
        obtain ⟨nd, mv⟩ := m0
        obtain ⟨j, rfl, hj, hk1, hk2⟩ := sp_node hs0
        exact mergeE_fine (k := mv.length) ⟨hk1, hk2⟩ rfl (fun w hw => by
          obtain ⟨x, hx, rfl⟩ := List.mem_map.1 hw
          rw [(ha x (by simp [hx])).2, ← h0.2])
    simp only [S61, S62, List.length_nil, List.map_nil, Int.natCast_zero, xf_law03_VectorTogether_k1, xf_law03_VectorTogether_k2] at h61 h62
    generalize idxs (fun m => !ov (mergeR (l.map (·.vec))) m) 0 l = J at *
    generalize hQQ : partL l bs = Q at *
    generalize l.filter (fun m => !ov (mergeR (l.map (·.vec))) m) = R at *
    generalize mergeR (l.map (·.vec)) = mm at *
    have hBl : (l.map fun m => !ov mm m).length = l.length := by simp
    generalize (l.map fun m => !ov mm m) = B at *
    have hBt : (B.map Dat.bool).take l.length = B.map Dat.bool := List.take_of_length_le (by simp [hBl])
    have hLIM : l.length ≤ LIM := by simp only [LIM]; omega
    cases hg : goC l 0 l with
    | none =>
      have hJe := hall.1 hg
      have hQc : goC Q 0 Q = none := by
        rw [goC_none] at hg ⊢
        exact fun m hm x hx => hg m (hQm m hm) x (hQm x hx)
      rw [consI_none hv hg] at h25
      rw [consI_none hQv hQc] at hQ25
      by_cases hnil : l = []
      · have hz := eq_true hnil
        simp [T, xf_law03_VectorTogether, xf_law03_VectorTogether_k0, xf_law03_VectorTogether_k1, xf_law03_VectorTogether_k2, hal, h25, h27, k0, hJe, hQ, hQ25, h60, hR, hR25, hz, hBl, hBt, hLIM]
      · rw [hE hnil] at h20
        have hz := eq_false hnil
        simp [T, xf_law03_VectorTogether, xf_law03_VectorTogether_k0, xf_law03_VectorTogether_k1, xf_law03_VectorTogether_k2, hal, h25, h27, k0, hJe, hQ, hQ25, h60, hR, hR25, h61, h20, h62, hz, hBl, hBt, hLIM]
    | some p =>
      have hci := consI_some hv hg
      have hJe : J.length ≠ l.length := fun h => by rw [hall.2 h] at hg; cases hg
      have hJe' : ¬ (J.length : Int) = l.length := by omega
      by_cases hnil : l = []
      · have hz := eq_true hnil
        simp [T, xf_law03_VectorTogether, xf_law03_VectorTogether_k0, xf_law03_VectorTogether_k1, xf_law03_VectorTogether_k2, hal, h25, h27, k0, hJe', hci, hQ, hQ25, h60, hR, hR25, hz, hBl, hBt, hLIM]
      · rw [hE hnil] at h20
        have hz := eq_false hnil
        simp [T, xf_law03_VectorTogether, xf_law03_VectorTogether_k0, xf_law03_VectorTogether_k1, xf_law03_VectorTogether_k2, hal, h25, h27, k0, hJe', hci, hQ, hQ25, h60, hR, hR25, h61, h20, h62, hz, hBl, hBt, hLIM]
end Go.Ax
