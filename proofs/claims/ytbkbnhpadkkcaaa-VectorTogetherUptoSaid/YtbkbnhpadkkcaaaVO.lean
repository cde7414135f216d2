/-
  The document's Merge, evaluated.
-/
import Derived.Test.YtbkbnhpadkkcaaaVN
namespace Go.Ax
variable {n d : Nat}
set_option maxRecDepth 10000

/-- A loop that counts from a to N. -/
theorem loop_from {body : St → Option (Ex × St)} {head : St → Option St} (S : Nat → St) (a N : Nat) (ha : a ≤ N) (fin : Ex × St) (step : ∀ i, a ≤ i → i < N → ∃ s2, body (S i) = some (.normal, s2) ∧ head s2 = some (S (i + 1)))
    (done : body (S N) = some fin) (hfin : ∀ s, fin ≠ (.normal, s)) (m : Nat) (hm : N < m) : loopAt body head m (S a) = some fin := by
  have := loop_for (body := body) (head := head) (fun i => S (a + i)) (N - a) fin (fun i hi => by
    obtain ⟨s2, h1, h2⟩ := step (a + i) (by omega) (by omega)
    exact ⟨s2, h1, h2⟩) (by rw [show a + (N - a) = N by omega]; exact done) hfin m (by omega)
  exact this

/-- The greatest of place k among the first i. -/
def colmax (l : List (List Draw)) (k i : Nat) : Draw := ((l.take i).drop 1).foldl (fun x v => mxd x (v.getD k ⟨0, 0⟩)) ((l.headD []).getD k ⟨0, 0⟩)
theorem colmax_succ {l : List (List Draw)} {k i : Nat} (h1 : 1 ≤ i) (hi : i < l.length) : colmax l k (i + 1) = mxd (colmax l k i) (l[i].getD k ⟨0, 0⟩) := by
  unfold colmax
  have h2 : 1 ≤ (l.take i).length := by simp; omega
  rw [List.take_succ_eq_append_getElem hi, List.drop_append_of_le_length h2, List.foldl_append]
  rfl

def S21j (l : List (List Draw)) (X : List Draw) (k i : Nat) : St :=
  ⟨[(0, .dat (encL l)), (5, .own 0 0 X.length), (6, .dat (.int .i64 k)), (7, .ptr 1 0), (8, .dat (.int .i64 i))], [.arr 26 2 true false (X.map encD), .box [.dat (.int .u64 (colmax l k i).hi), .dat (.int .u64 (colmax l k i).lo)]]⟩

theorem inner21 (l : List (List Draw)) (X : List Draw) (k : Nat) (hl : l.length ≤ 1999999) (h1 : 1 ≤ l.length) (hv : ∀ v ∈ l, k < v.length) (hn : 1999999 < n) :
    loopAt (XCode.run (runFn T n (d + 2)) n 0 xf_ref03_Merge_b2) (headOf 0 xf_ref03_Merge_k2) n (S21j l X k 1) =
      some (.exit 4, ⟨[(0, .dat (encL l)), (5, .own 0 0 X.length), (6, .dat (.int .i64 k)), (7, .ptr 1 0)], [.arr 26 2 true false (X.map encD), .box [.dat (.int .u64 (colmax l k l.length).hi), .dat (.int .u64 (colmax l k l.length).lo)]]⟩) := by
  refine loop_from (S21j l X k) 1 l.length h1 _ (fun i hi1 hi => ?_) ?_ (fun s h => by cases h) n (by omega)
  · have hi' : (i : Int) < l.length := by omega
    have hw := wrap_i i (by omega)
    have hki := hv l[i] (List.getElem_mem hi)
    have h44 := p44 (n := n) (d := d) (colmax l k i) l[i][k]
    have hs := colmax_succ (k := k) hi1 hi
    have hgd : l[i].getD k ⟨0, 0⟩ = l[i][k] := by simp [List.getD, hki]
    rw [hgd] at hs
    refine ⟨S21j l X k (i + 1), ?_, by simp [xf_ref03_Merge_k2, S21j]⟩
    by_cases hc : cmp (colmax l k i) l[i][k] < 0
    · have hm : mxd (colmax l k i) l[i][k] = l[i][k] := if_pos hc
      rw [hm] at hs
      simp [hc] at h44
      simp [xf_ref03_Merge_b2, S21j, hi', hi, hki, hw, h44, hs]
    · have hm : mxd (colmax l k i) l[i][k] = colmax l k i := if_neg hc
      rw [hm] at hs
      simp [hc] at h44
      simp [xf_ref03_Merge_b2, S21j, hi', hi, hki, hw, h44, hs]
  · simp [xf_ref03_Merge_b2, S21j]

def cols (l : List (List Draw)) (k : Nat) : List Draw := (List.range k).map fun j => colmax l j l.length
theorem cols_length (l : List (List Draw)) (k : Nat) : (cols l k).length = k := by simp [cols]
theorem cols_succ (l : List (List Draw)) (k : Nat) : cols l (k + 1) = cols l k ++ [colmax l k l.length] := by simp only [cols, List.range_succ, List.map_append, List.map_cons, List.map_nil]

def S21i (l : List (List Draw)) (k : Nat) : St := ⟨[(0, .dat (encL l)), (5, .own 0 0 k), (6, .dat (.int .i64 k))], [.arr 26 2 true false ((cols l k).map encD)]⟩

theorem outer21 (v0 : List Draw) (r : List (List Draw)) (hl : (v0 :: r).length ≤ 1999999) (h7 : v0.length ≤ 7) (hv : ∀ v ∈ v0 :: r, v.length = v0.length) (hn : 1999999 < n) :
    loopAt (XCode.run (runFn T n (d + 2)) n 0 xf_ref03_Merge_b1) (headOf 0 xf_ref03_Merge_k1) n (S21i (v0 :: r) 0) = some (.exit 2, ⟨[(5, .own 0 0 v0.length)], [.arr 26 2 true false ((cols (v0 :: r) v0.length).map encD)]⟩) := by
  refine loop_for (S21i (v0 :: r)) v0.length _ (fun k hk => ?_) ?_ (fun s h => by cases h) n (by omega)
  · have hk' : (k : Int) < v0.length := by omega
    have hw := wrap_i k (by omega)
    have h0 := inner21 (n := n) (d := d) (v0 :: r) (cols (v0 :: r) k) k hl (by simp) (fun v h => by rw [hv v h]; exact hk) hn
    have hc1 : colmax (v0 :: r) k 1 = v0[k] := by simp [colmax, List.getD, hk]
    have hcl := cols_length (v0 :: r) k
    simp [S21j, xf_ref03_Merge_k2, hc1, hcl] at h0
    have hcl2 : k + 1 ≤ LIM := by simp only [LIM]; omega
    have hs := cols_succ (v0 :: r) k
    simp only [List.length_cons] at hs
    refine ⟨⟨[(0, .dat (encL (v0 :: r))), (5, .own 3 0 (k + 1)), (6, .dat (.int .i64 (k + 1 : Nat)))], [.dead, .box [.dat (.int .u64 (colmax (v0 :: r) k (r.length + 1)).hi), .dat (.int .u64 (colmax (v0 :: r) k (r.length + 1)).lo)], .arr 26 2 true false [encD (colmax (v0 :: r) k (r.length + 1))], .arr 26 2 true false ((cols (v0 :: r) (k + 1)).map encD)]⟩, ?_, by simp [xf_ref03_Merge_k1, S21i]⟩
    simp [xf_ref03_Merge_b1, S21i, xf_ref03_Merge_k2, hk', hk, hw, h0, hcl, hcl2, hs]
  · simp [xf_ref03_Merge_b1, S21i]

def mergeR2 (l : List (List Draw)) : List Draw := if badl l then [] else cols l (l.headD []).length
theorem p21 (l : List (List Draw)) (hl : l.length ≤ 1999999) (hn : 1999999 < n) : runFn T n (d + 3) 21 [.dat (encL l)] [] =
    some (.tup [.dat (encV (mergeR2 l)), .dat (.int .i64 (mergeE l))], []) := by
  rw [runFn_succ]
  unfold mergeR2 mergeE
  cases l with
  | nil => simp [T, xf_ref03_Merge, badl]
  | cons v0 r =>
    have hc := check21 (n := n) (d := d + 1) (v0 :: r) v0 rfl hl hn
    simp [S21, xf_ref03_Merge_k0] at hc
    have hne : ¬ ((r.length : Int) + 1 = 0) := by omega
    by_cases hb : badl (v0 :: r)
    · have hb' : badv v0.length v0 ∨ ∃ a ∈ r, badv v0.length a := by simpa [badl] using hb
      rw [if_pos hb, if_pos hb]
      simp [hb'] at hc
      simp [T, xf_ref03_Merge, xf_ref03_Merge_k0, hc, hne]
    · have hb' : ¬ (badv v0.length v0 ∨ ∃ a ∈ r, badv v0.length a) := by simpa [badl] using hb
      rw [if_neg hb, if_neg hb]
      rw [if_neg hb'] at hc
      have hall : ∀ v ∈ v0 :: r, v.length = v0.length ∧ v.length ≤ 7 := fun v hv => by
        have : ¬ badv v0.length v := fun h => by
          rcases List.mem_cons.1 hv with e | e
          · subst e; exact hb' (.inl h)
          · exact hb' (.inr ⟨v, e, h⟩)
        simp only [badv, not_or, Classical.not_not, ne_eq] at this
        exact ⟨this.2, this.1.2⟩
      have h7 := (hall v0 (by simp)).2
      have ho := outer21 (n := n) (d := d) v0 r hl h7 (fun v hv => (hall v hv).1) hn
      have hz : cols (v0 :: r) 0 = [] := rfl
      simp [S21i, xf_ref03_Merge_k1, hz] at ho
      have hml := cols_length (v0 :: r) v0.length
      have ht : ((cols (v0 :: r) v0.length).map encD).take v0.length = (cols (v0 :: r) v0.length).map encD := List.take_of_length_le (by simp [hml])
      simp [T, xf_ref03_Merge, xf_ref03_Merge_k0, xf_ref03_Merge_k1, hc, hne, ho, hml, ht]

end Go.Ax
