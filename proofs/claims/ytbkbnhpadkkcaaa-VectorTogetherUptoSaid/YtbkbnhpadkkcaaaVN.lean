/-
  Merge, evaluated: the whole.
-/
import Derived.Test.YtbkbnhpadkkcaaaVM
namespace Go.Ax
variable {n d : Nat}
set_option maxRecDepth 10000

/-- What Merge makes of vectors of k places. -/
def merged (k : Nat) (l : List (List Draw)) : List Draw := l.foldl mxv (List.replicate k ⟨0, 0⟩)
theorem mxv_length {o v : List Draw} (h : o.length = v.length) : (mxv o v).length = o.length := by simp [mxv, h]
theorem foldl_length : ∀ (l : List (List Draw)) (o : List Draw), (∀ v ∈ l, v.length = o.length) → (l.foldl mxv o).length = o.length
  | [], o, _ => rfl
  | v :: l, o, h => by
    have h1 := mxv_length (o := o) (v := v) (h v (by simp)).symm
    rw [List.foldl_cons, foldl_length l _ (fun w hw => by rw [h1]; exact h w (by simp [hw])), h1]
theorem merged_length {k : Nat} {l : List (List Draw)} (h : ∀ v ∈ l, v.length = k) : (merged k l).length = k := by
  unfold merged
  rw [foldl_length _ _ (fun v hv => by simp [h v hv])]
  simp
theorem merged_succ {k : Nat} {l : List (List Draw)} {i : Nat} (hi : i < l.length) : merged k (l.take (i + 1)) = mxv (merged k (l.take i)) l[i] := by
  unfold merged
  rw [List.take_succ_eq_append_getElem hi, List.foldl_append]
  rfl

def S20i (k : Nat) (l : List (List Draw)) (i : Nat) : St :=
  ⟨[(6, .own 0 0 k), (38, .dat (encL l)), (39, .dat (.int .i64 l.length)), (40, .dat (.int .i64 i))], [.arr 26 2 true false ((merged k (l.take i)).map encD)]⟩

theorem outer20 (k : Nat) (hk : k ≤ 7) (l : List (List Draw)) (hl : l.length ≤ 1999999) (hv : ∀ v ∈ l, v.length = k) (hn : 1999999 < n) :
    loopAt (XCode.run (runFn T n (d + 1)) n 0 xf_vector_Merge_b1) (headOf 0 xf_vector_Merge_k1) n (S20i k l 0) = some (.exit 2, ⟨[(6, .own 0 0 k)], [.arr 26 2 true false ((merged k l).map encD)]⟩) := by
  refine loop_for (S20i k l) l.length _ (fun i hi => ?_) ?_ (fun s h => by cases h) n (by omega)
  · have hi' : (i : Int) < l.length := by omega
    have hw := wrap_i i (by omega)
    have hm := merged_length (k := k) (l := l.take i) (fun v h => hv v (List.mem_of_mem_take h))
    have hvi := hv l[i] (List.getElem_mem hi)
    have h0 := inner20 (n := n) (d := d) l (merged k (l.take i)) l[i] i (by rw [hm, hvi]) (by omega) hn
    rw [← merged_succ hi] at h0
    simp [S20j, acc2, xf_vector_Merge_k2, hm] at h0
    refine ⟨S20i k l (i + 1), ?_, by simp [xf_vector_Merge_k1, S20i]⟩
    simp [xf_vector_Merge_b1, S20i, xf_vector_Merge_k2, hi', hi, hw, h0]
  · simp [xf_vector_Merge_b1, S20i]

/-- May these be merged? -/
def badl (l : List (List Draw)) : Prop := l = [] ∨ ∃ v ∈ l, badv (l.headD []).length v
instance (l : List (List Draw)) : Decidable (badl l) := by unfold badl; infer_instance

def mergeR (l : List (List Draw)) : List Draw := if badl l then [] else merged (l.headD []).length l
def mergeE (l : List (List Draw)) : Int := if badl l then 30 else 0
theorem p20 (l : List (List Draw)) (hl : l.length ≤ 1999999) (hn : 1999999 < n) : runFn T n (d + 2) 20 [.dat (encL l)] [] =
    some (.tup [.dat (encV (mergeR l)), .dat (.int .i64 (mergeE l))], []) := by
  rw [runFn_succ]
  unfold mergeR mergeE
  cases l with
  | nil => simp [T, xf_vector_Merge, badl]
  | cons v0 r =>
    have hc := check20 (n := n) (d := d) (v0 :: r) v0 rfl hl hn
    simp [S20, xf_vector_Merge_k0] at hc
    have hne : ¬ ((r.length : Int) + 1 = 0) := by omega
    by_cases hb : badl (v0 :: r)
    · have hb' : badv v0.length v0 ∨ ∃ a ∈ r, badv v0.length a := by simpa [badl] using hb
      rw [if_pos hb, if_pos hb]
      simp [hb'] at hc
      simp [T, xf_vector_Merge, xf_vector_Merge_k0, hc, hne]
    · have hb' : ¬ (badv v0.length v0 ∨ ∃ a ∈ r, badv v0.length a) := by simpa [badl] using hb
      rw [if_neg hb, if_neg hb]
      rw [if_neg hb'] at hc
      have hall : ∀ v ∈ v0 :: r, v.length = v0.length ∧ v.length ≤ 7 := fun v hv => by
        have : ¬ badv v0.length v := fun h => by
          rcases List.mem_cons.1 hv with e | e
          · subst e; exact hb' (.inl h)
          · exact hb' (.inr ⟨v, e, h⟩)
        simp only [badv, not_or, Classical.not_not, ne_eq] at this
        exact ⟨this.2, this.1.2⟩
      have h7 := (hall v0 (by simp)).2
      have ho := outer20 (n := n) (d := d) v0.length h7 (v0 :: r) hl (fun v hv => (hall v hv).1) hn
      have hz : merged v0.length [] = List.replicate v0.length ⟨0, 0⟩ := rfl
      simp [S20i, xf_vector_Merge_k1, hz] at ho
      have hL : (v0.length : Int) ≤ (LIM : Int) := by simp only [LIM]; omega
      have hml := merged_length (k := v0.length) (l := v0 :: r) (fun v hv => (hall v hv).1)
      have ht : ((merged v0.length (v0 :: r)).map encD).take v0.length = (merged v0.length (v0 :: r)).map encD := List.take_of_length_le (by simp [hml])
      simp [T, xf_vector_Merge, xf_vector_Merge_k0, xf_vector_Merge_k1, hc, hne, ho, hL, hml, ht]

end Go.Ax
