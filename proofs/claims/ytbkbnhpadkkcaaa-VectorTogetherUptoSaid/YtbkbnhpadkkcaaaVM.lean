/-
  Merge, evaluated.
-/
import Derived.Test.YtbkbnhpadkkcaaaVC
namespace Go.Ax
variable {n d : Nat}
set_option maxRecDepth 10000

abbrev encL (l : List (List Draw)) : Dat := .sl 1 false (l.map encV)
def mxd (x y : Draw) : Draw := if cmp x y < 0 then y else x
def mxv (o v : List Draw) : List Draw := List.zipWith mxd o v

/-- A vector that may not be merged with the first. -/
def badv (k : Nat) (v : List Draw) : Prop := ¬ (1 ≤ v.length ∧ v.length ≤ 7) ∨ v.length ≠ k
instance (k : Nat) (v : List Draw) : Decidable (badv k v) := by unfold badv; infer_instance

def S20 (l : List (List Draw)) (i : Nat) : St := ⟨[(0, .dat (encL l)), (14, .dat (encL l)), (15, .dat (.int .i64 l.length)), (16, .dat (.int .i64 i))], []⟩

theorem check20 (l : List (List Draw)) (v0 : List Draw) (h0 : l[0]? = some v0) (hl : l.length ≤ 1999999) (hn : 1999999 < n) :
    loopAt (XCode.run (runFn T n (d + 1)) n 0 xf_vector_Merge_b0) (headOf 0 xf_vector_Merge_k0) n (S20 l 0) =
      some (if ∃ v ∈ l, badv v0.length v then (.ret, ⟨[(2, .nil 26 2 true), (3, .dat (.int .i64 30))], []⟩) else (.exit 0, ⟨[(0, .dat (encL l))], []⟩)) := by
  have hz : 0 < l.length := (List.getElem?_eq_some_iff.1 h0).1
  have h0' : l[0] = v0 := (List.getElem?_eq_some_iff.1 h0).2
  have main := loop_until (body := XCode.run (runFn T n (d + 1)) n 0 xf_vector_Merge_b0) (head := headOf 0 xf_vector_Merge_k0) (S20 l) l.length (.exit 0, ⟨[(0, .dat (encL l))], []⟩) (fun i => badv v0.length (l.getD i []))
    (fun _ => (.ret, ⟨[(2, .nil 26 2 true), (3, .dat (.int .i64 30))], []⟩)) (fun i hi hs => ?_) (fun i hi hs => ⟨?_, fun s h => by cases h⟩) ?_ (fun s h => by cases h) l.length n 0 (by omega) (by omega)
  · rcases main with ⟨j, _, hj, hs, _, e⟩ | ⟨hs, e⟩
    · rw [e, if_pos ⟨l[j], List.getElem_mem hj, by simpa [List.getD, hj] using hs⟩]
    · rw [e, if_neg]
      rintro ⟨v, hv, hb⟩
      obtain ⟨j, hj, rfl⟩ := List.mem_iff_getElem.1 hv
      exact hs j (Nat.zero_le _) hj (by simpa [List.getD, hj] using hb)
  · have hi' : (i : Int) < l.length := by omega
    have hw := wrap_i i (by omega)
    have h38 := p38 (n := n) (d := d) l[i]
    simp only [List.getD, List.getElem?_eq_getElem hi, Option.getD_some, badv, not_or, Classical.not_not, ne_eq] at hs
    refine ⟨S20 l (i + 1), ?_, by simp [xf_vector_Merge_k0, S20]⟩
    have e1 : ((l[i].length : Nat) : Int) = v0.length := by omega
    have hf' : decide (1 ≤ l[i].length ∧ l[i].length ≤ 7) = true := decide_eq_true hs.1
    rw [hf'] at h38
    simp [xf_vector_Merge_b0, S20, hi', hi, hz, hw, h38, h0', e1]
  · have hi' : (i : Int) < l.length := by omega
    have h38 := p38 (n := n) (d := d) l[i]
    simp only [List.getD, List.getElem?_eq_getElem hi, Option.getD_some, badv] at hs
    by_cases hf : 1 ≤ l[i].length ∧ l[i].length ≤ 7
    · have e1 : ¬ ((l[i].length : Nat) : Int) = v0.length := by
        rcases hs with hs | hs
        · exact absurd hf hs
        · omega
      have hf' : decide (1 ≤ l[i].length ∧ l[i].length ≤ 7) = true := decide_eq_true hf
      rw [hf'] at h38
      simp [xf_vector_Merge_b0, S20, hi', hi, hz, h38, h0', e1]
    · have hf' : decide (1 ≤ l[i].length ∧ l[i].length ≤ 7) = false := by simpa using hf
      rw [hf'] at h38
      simp [xf_vector_Merge_b0, S20, hi', hi, h38]
  · simp [xf_vector_Merge_b0, S20]

def S21 (l : List (List Draw)) (i : Nat) : St := ⟨[(0, .dat (encL l)), (4, .dat (.int .i64 i))], []⟩

theorem check21 (l : List (List Draw)) (v0 : List Draw) (h0 : l[0]? = some v0) (hl : l.length ≤ 1999999) (hn : 1999999 < n) :
    loopAt (XCode.run (runFn T n (d + 1)) n 0 xf_ref03_Merge_b0) (headOf 0 xf_ref03_Merge_k0) n (S21 l 0) =
      some (if ∃ v ∈ l, badv v0.length v then (.ret, ⟨[(2, .nil 26 2 true), (3, .dat (.int .i64 30))], []⟩) else (.exit 0, ⟨[(0, .dat (encL l))], []⟩)) := by
  have hz : 0 < l.length := (List.getElem?_eq_some_iff.1 h0).1
  have h0' : l[0] = v0 := (List.getElem?_eq_some_iff.1 h0).2
  have main := loop_until (body := XCode.run (runFn T n (d + 1)) n 0 xf_ref03_Merge_b0) (head := headOf 0 xf_ref03_Merge_k0) (S21 l) l.length (.exit 0, ⟨[(0, .dat (encL l))], []⟩) (fun i => badv v0.length (l.getD i []))
    (fun _ => (.ret, ⟨[(2, .nil 26 2 true), (3, .dat (.int .i64 30))], []⟩)) (fun i hi hs => ?_) (fun i hi hs => ⟨?_, fun s h => by cases h⟩) ?_ (fun s h => by cases h) l.length n 0 (by omega) (by omega)
  · rcases main with ⟨j, _, hj, hs, _, e⟩ | ⟨hs, e⟩
    · rw [e, if_pos ⟨l[j], List.getElem_mem hj, by simpa [List.getD, hj] using hs⟩]
    · rw [e, if_neg]
      rintro ⟨v, hv, hb⟩
      obtain ⟨j, hj, rfl⟩ := List.mem_iff_getElem.1 hv
      exact hs j (Nat.zero_le _) hj (by simpa [List.getD, hj] using hb)
  · have hi' : (i : Int) < l.length := by omega
    have hw := wrap_i i (by omega)
    have h39 := p39 (n := n) (d := d) l[i]
    simp only [List.getD, List.getElem?_eq_getElem hi, Option.getD_some, badv, not_or, Classical.not_not, ne_eq] at hs
    refine ⟨S21 l (i + 1), ?_, by simp [xf_ref03_Merge_k0, S21]⟩
    have e1 : ((l[i].length : Nat) : Int) = v0.length := by omega
    have hf' : decide (1 ≤ l[i].length ∧ l[i].length ≤ 7) = true := decide_eq_true hs.1
    rw [hf'] at h39
    simp [xf_ref03_Merge_b0, S21, hi', hi, hz, hw, h39, h0', e1]
  · have hi' : (i : Int) < l.length := by omega
    have h39 := p39 (n := n) (d := d) l[i]
    simp only [List.getD, List.getElem?_eq_getElem hi, Option.getD_some, badv] at hs
    by_cases hf : 1 ≤ l[i].length ∧ l[i].length ≤ 7
    · have e1 : ¬ ((l[i].length : Nat) : Int) = v0.length := by
        rcases hs with hs | hs
        · exact absurd hf hs
        · omega
      have hf' : decide (1 ≤ l[i].length ∧ l[i].length ≤ 7) = true := decide_eq_true hf
      rw [hf'] at h39
      simp [xf_ref03_Merge_b0, S21, hi', hi, hz, h39, h0', e1]
    · have hf' : decide (1 ≤ l[i].length ∧ l[i].length ≤ 7) = false := by simpa using hf
      rw [hf'] at h39
      simp [xf_ref03_Merge_b0, S21, hi', hi, h39]
  · simp [xf_ref03_Merge_b0, S21]

/-- The inner loop of Merge. -/
def acc2 (o v : List Draw) (j : Nat) : List Draw := (mxv o v).take j ++ o.drop j
theorem acc2_length {o v : List Draw} (h : o.length = v.length) {j : Nat} (hj : j ≤ o.length) : (acc2 o v j).length = o.length := by
  simp [acc2, mxv]; omega
theorem acc2_get {o v : List Draw} (h : o.length = v.length) {j : Nat} (hj : j < o.length) : (acc2 o v j)[j]? = some o[j] := by
  have : ((mxv o v).take j).length = j := by simp [mxv]; omega
  unfold acc2
  rw [List.getElem?_append_right (by omega), this]
  simp [hj]
theorem acc2_succ {o v : List Draw} (h : o.length = v.length) {j : Nat} (hj : j < o.length) (hv : j < v.length) : acc2 o v (j + 1) = (acc2 o v j).set j (mxd o[j] v[j]) := by
  have h1 : ((mxv o v).take j).length = j := by simp [mxv]; omega
  have h2 : j < (mxv o v).length := by simp [mxv]; omega
  unfold acc2
  rw [List.take_succ_eq_append_getElem h2, List.set_append_right _ _ (by omega), h1, List.drop_eq_getElem_cons hj]
  simp only [mxv, List.getElem_zipWith, Nat.sub_self, List.set_cons_zero, List.append_assoc, List.cons_append, List.nil_append]

def S20j (l : List (List Draw)) (o v : List Draw) (i j : Nat) : St :=
  ⟨[(6, .own 0 0 o.length), (38, .dat (encL l)), (39, .dat (.int .i64 l.length)), (40, .dat (.int .i64 i)), (44, .dat (encV v)), (45, .dat (.int .i64 v.length)), (46, .dat (.int .i64 j))], [.arr 26 2 true false ((acc2 o v j).map encD)]⟩

theorem inner20 (l : List (List Draw)) (o v : List Draw) (i : Nat) (h : o.length = v.length) (hv : v.length ≤ 7) (hn : 1999999 < n) :
    loopAt (XCode.run (runFn T n (d + 1)) n 0 xf_vector_Merge_b2) (headOf 0 xf_vector_Merge_k2) n (S20j l o v i 0) =
      some (.exit 4, ⟨[(6, .own 0 0 o.length), (38, .dat (encL l)), (39, .dat (.int .i64 l.length)), (40, .dat (.int .i64 i))], [.arr 26 2 true false ((mxv o v).map encD)]⟩) := by
  refine loop_for (S20j l o v i) v.length _ (fun j hj => ?_) ?_ (fun s h => by cases h) n (by omega)
  · have hj' : (j : Int) < v.length := by omega
    have hjo : j < o.length := by omega
    have hjo' : (j : Int) < o.length := by omega
    have hw := wrap_i j (by omega)
    have h43 := p43 (n := n) (d := d) o[j] v[j]
    have hg := acc2_get h hjo
    have hlen := acc2_length h (j := j) (by omega)
    have hg2 : ∀ hh : j < (acc2 o v j).length, (acc2 o v j)[j] = o[j] := fun hh => by rw [List.getElem?_eq_getElem hh] at hg; injection hg
    have hs := acc2_succ h hjo hj
    by_cases hc : cmp o[j] v[j] < 0
    · have hm : mxd o[j] v[j] = v[j] := if_pos hc
      rw [hm] at hs
      refine ⟨⟨[(6, .own 0 0 o.length), (38, .dat (encL l)), (39, .dat (.int .i64 l.length)), (40, .dat (.int .i64 i)), (44, .dat (encV v)), (45, .dat (.int .i64 v.length)), (46, .dat (.int .i64 (j + 1 : Nat)))], [.arr 26 2 true false ((acc2 o v (j + 1)).map encD), .box [.dat (.int .u64 v[j].hi), .dat (.int .u64 v[j].lo)]]⟩, ?_, ?_⟩
      · simp [xf_vector_Merge_b2, S20j, hj', hj, hjo, hjo', hw, h43, hg2, hc, hs, hlen]
      · simp [xf_vector_Merge_k2, S20j]
    · have hm : mxd o[j] v[j] = o[j] := if_neg hc
      have hs2 : acc2 o v (j + 1) = acc2 o v j := by
        have hh : j < (acc2 o v j).length := by omega
        rw [hs, hm, ← hg2 hh, List.set_getElem_self]
      refine ⟨⟨[(6, .own 0 0 o.length), (38, .dat (encL l)), (39, .dat (.int .i64 l.length)), (40, .dat (.int .i64 i)), (44, .dat (encV v)), (45, .dat (.int .i64 v.length)), (46, .dat (.int .i64 (j + 1 : Nat)))], [.arr 26 2 true false ((acc2 o v j).map encD), .box [.dat (.int .u64 v[j].hi), .dat (.int .u64 v[j].lo)]]⟩, ?_, ?_⟩
      · simp [xf_vector_Merge_b2, S20j, hj', hj, hjo, hjo', hw, h43, hg2, hc, hlen]
      · simp [xf_vector_Merge_k2, S20j, hs2]
  · have e : acc2 o v v.length = mxv o v := by
      unfold acc2
      rw [List.take_of_length_le (by simp [mxv]; omega), List.drop_eq_nil_of_le (by omega), List.append_nil]
    simp [xf_vector_Merge_b2, S20j, e]

end Go.Ax
