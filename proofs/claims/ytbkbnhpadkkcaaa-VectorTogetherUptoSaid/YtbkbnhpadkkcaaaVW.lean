/-
  The two Merges are one.
-/
import Derived.Test.YtbkbnhpadkkcaaaVO
namespace Go.Ax

theorem foldl_get : ∀ (l : List (List Draw)) (o : List Draw) (j : Nat) (hj : j < o.length), (∀ v ∈ l, v.length = o.length) → (l.foldl mxv o)[j]? = some (l.foldl (fun x v => mxd x (v.getD j ⟨0, 0⟩)) o[j])
  | [], o, j, hj, _ => by simp [hj]
  | v :: l, o, j, hj, h => by
    have h1 := h v (by simp)
    have h2 := mxv_length (o := o) (v := v) h1.symm
    have hj2 : j < (mxv o v).length := by omega
    have hjv : j < v.length := by omega
    rw [List.foldl_cons, foldl_get l (mxv o v) j hj2 (fun w hw => by rw [h2]; exact h w (by simp [hw])), List.foldl_cons]
    have : (mxv o v)[j] = mxd o[j] (v.getD j ⟨0, 0⟩) := by simp [mxv, List.getD, hjv]
    rw [this]

def Nn (x : Draw) : Prop := 0 ≤ x.hi ∧ 0 ≤ x.lo
theorem mxd_zero {x : Draw} (h : Nn x) : mxd ⟨0, 0⟩ x = x := by
  cases x with
  | mk a b =>
    obtain ⟨h1, h2⟩ := h
    simp only at h1 h2
    unfold mxd cmp
    by_cases h0 : (⟨0, 0⟩ : Draw) = ⟨a, b⟩
    · rw [if_pos h0]; simp only [Int.lt_irrefl, if_false]; exact h0
    · rw [if_neg h0]
      have : (0 : Int) < a ∨ ((0 : Int) = a ∧ (0 : Int) < b) := by
        by_cases ha : a = 0
        · have hb : b ≠ 0 := fun e => h0 (by rw [ha, e])
          exact .inr ⟨ha.symm, by omega⟩
        · exact .inl (by omega)
      rw [if_pos this]; rfl

theorem merged_cols (v0 : List Draw) (r : List (List Draw)) (hv : ∀ v ∈ v0 :: r, v.length = v0.length) (hn : ∀ x ∈ v0, Nn x) : merged v0.length (v0 :: r) = cols (v0 :: r) v0.length := by
  refine List.ext_getElem? fun j => ?_
  by_cases hj : j < v0.length
  · have h1 := foldl_get (v0 :: r) (List.replicate v0.length ⟨0, 0⟩) j (by simpa using hj) (fun v h => by simp [hv v h])
    unfold merged
    rw [h1]
    have hz : mxd ⟨0, 0⟩ v0[j] = v0[j] := mxd_zero (hn _ (List.getElem_mem hj))
    simp [cols, hj, colmax, List.getD, hz]
  · have h1 := merged_length (k := v0.length) hv
    have h2 := cols_length (v0 :: r) v0.length
    rw [List.getElem?_eq_none (by omega), List.getElem?_eq_none (by omega)]

end Go.Ax
