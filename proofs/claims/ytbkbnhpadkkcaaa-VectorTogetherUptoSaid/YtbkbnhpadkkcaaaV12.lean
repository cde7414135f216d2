/-
  VectorTogether: what is marked as alive; the law's loops.
-/
import Derived.Test.YtbkbnhpadkkcaaaV11
namespace Go.Ax
variable {n d : Nat}
set_option maxRecDepth 10000
set_option linter.unusedSimpArgs false
set_option maxHeartbeats 2000000

theorem mem_idxs (f : Voice → Bool) (j : Nat) : ∀ (l : List Voice) (i : Nat), j ∈ idxs f i l ↔ ∃ k, ∃ h : k < l.length, j = i + k ∧ f l[k] = true
  | [], i => by simp [idxs]
  | m :: r, i => by
    have ih := mem_idxs f j r (i + 1)
    have key : (∃ k, ∃ h : k < (m :: r).length, j = i + k ∧ f (m :: r)[k] = true) ↔ (j = i ∧ f m = true) ∨ (∃ k, ∃ h : k < r.length, j = i + 1 + k ∧ f r[k] = true) := by
      constructor
      · rintro ⟨k, h, e, hf⟩
        cases k with
        | zero => exact .inl ⟨by simpa using e, by simpa using hf⟩
        | succ k => exact .inr ⟨k, by simpa using h, by omega, by simpa using hf⟩
      · rintro (⟨e, hf⟩ | ⟨k, h, e, hf⟩)
        · exact ⟨0, by simp, by simpa using e, by simpa using hf⟩
        · exact ⟨k + 1, by simpa using h, by omega, by simpa using hf⟩
    rw [key]
    simp only [idxs]
    cases hf : f m
    · simp only [Bool.false_eq_true, if_false, and_false, false_or]; exact ih
    · simp only [if_true, List.mem_cons, and_true]; rw [ih]
theorem idxs_pair (f : Voice → Bool) : ∀ (l : List Voice) (i : Nat), (idxs f i l).Pairwise (· < ·)
  | [], i => by simp [idxs]
  | m :: r, i => by
    have ih := idxs_pair f r (i + 1)
    simp only [idxs]
    split
    · refine List.pairwise_cons.2 ⟨fun j hj => ?_, ih⟩
      obtain ⟨k, _, e, _⟩ := (mem_idxs f j r (i + 1)).1 hj
      omega
    · exact ih
theorem idxs_all (f : Voice → Bool) : ∀ (l : List Voice) (i : Nat), (idxs f i l).length = l.length ↔ ∀ m ∈ l, f m = true
  | [], i => by simp [idxs]
  | m :: r, i => by
    have ih := idxs_all f r (i + 1)
    have hle := idxs_len f r (i + 1)
    simp only [idxs, List.mem_cons, forall_eq_or_imp]
    cases hf : f m
    · simp only [Bool.false_eq_true, if_false, false_and, List.length_cons, iff_false]; omega
    · simp only [if_true, List.length_cons, true_and]; rw [← ih]; omega
def lastI (q : List Nat) : Int := match q.getLast? with
  | some j => j
  | none => -1
theorem lastI_snoc (q : List Nat) (v : Nat) : lastI (q ++ [v]) = v := by simp [lastI]
theorem lastI_lt {J q r : List Nat} {v : Nat} (hJ : J.Pairwise (· < ·)) (e : J = q ++ v :: r) : lastI q < v := by
  subst e
  unfold lastI
  cases h : q.getLast? with
  | none => simp only; omega
  | some j =>
    have hj : j ∈ q := List.mem_of_getLast? h
    have := (List.pairwise_append.1 hJ).2.2 j hj v (by simp)
    simp only; omega
def liveOf (b : List Bool) (J : List Nat) : List Bool := J.foldl (fun b j => b.set j true) b
theorem liveOf_snoc (b : List Bool) (q : List Nat) (v : Nat) : liveOf b (q ++ [v]) = (liveOf b q).set v true := by simp [liveOf]
theorem liveOf_len : ∀ (J : List Nat) (b : List Bool), (liveOf b J).length = b.length
  | [], b => rfl
  | j :: J, b => by
    have := liveOf_len J (b.set j true)
    simp only [liveOf, List.foldl_cons] at this ⊢
    rw [this]; simp
theorem liveOf_get (k : Nat) : ∀ (J : List Nat) (b : List Bool) (hk : k < b.length), (liveOf b J)[k]? = some (b[k] || decide (k ∈ J))
  | [], b, hk => by simp [liveOf, hk]
  | j :: J, b, hk => by
    have := liveOf_get k J (b.set j true) (by simpa using hk)
    simp only [liveOf, List.foldl_cons] at this ⊢
    rw [this]
    by_cases e : j = k
    · subst e; simp
    · have e' : ¬ k = j := fun h => e h.symm
      simp [List.getElem_set, e, e']
theorem liveOf_map (f : Voice → Bool) (l : List Voice) : liveOf (List.replicate l.length false) (idxs f 0 l) = l.map f := by
  refine List.ext_getElem? fun k => ?_
  by_cases hk : k < l.length
  · rw [liveOf_get k _ _ (by simpa using hk)]
    have : decide (k ∈ idxs f 0 l) = f l[k] := by
      rw [Bool.eq_iff_iff, decide_eq_true_eq, mem_idxs]
      constructor
      · rintro ⟨k', h, e, hf⟩
        obtain rfl : k = k' := by omega
        exact hf
      · exact fun hf => ⟨k, hk, by omega, hf⟩
    simp [hk, this]
  · have h1 : (liveOf (List.replicate l.length false) (idxs f 0 l)).length = l.length := by rw [liveOf_len]; simp
    rw [List.getElem?_eq_none (by omega), List.getElem?_eq_none (by simp; omega)]

def S60 (l : List Voice) (J q : List Nat) : St := ⟨[(0, .dat (encVos l)), (8, .dat (.sl 1 true (J.map encI))), (13, .own 0 0 l.length), (14, .dat (.int .i64 (lastI q))), (15, .dat (.int .i64 q.length))], [.arr 4 1 true false ((liveOf (List.replicate l.length false) q).map Dat.bool)]⟩
theorem l60 (cf : CallF) (l : List Voice) (J : List Nat) (hJ : J.Pairwise (· < ·)) (hJ2 : ∀ j ∈ J, j < l.length) (hl : J.length ≤ 1999998) (hn : 1999999 < n) : loopAt (XCode.run cf n 0 xf_law03_VectorTogether_b0) (headOf 0 xf_law03_VectorTogether_k0) n (S60 l J []) =
    some (.exit 0, ⟨[(0, .dat (encVos l)), (13, .own 0 0 l.length)], [.arr 4 1 true false ((liveOf (List.replicate l.length false) J).map Dat.bool)]⟩) := by
  refine loop_pre (S60 l J) J _ (fun q v r hl2 => ?_) ?_ (fun s h => by simp at h) n (by omega)
  · have hx : (q.length : Int) < J.length := by rw [hl2]; simp; omega
    have hpl : q.length < J.length := by rw [hl2]; simp
    have hg : J[q.length] = v := by simp [hl2]
    have hw := wrap_i q.length (by omega)
    have h1 := lastI_lt hJ hl2
    have h2 := hJ2 v (by rw [hl2]; simp)
    have h1' : ¬ (v : Int) ≤ lastI q := by omega
    have h2' : ¬ (l.length : Int) ≤ v := by omega
    have h2'' : ¬ l.length ≤ v := by omega
    have hlen := liveOf_len q (List.replicate l.length false)
    simp at hw hlen
    simp only [S60, lastI_snoc, liveOf_snoc]
    generalize liveOf (List.replicate l.length false) q = B at hlen ⊢
    simp [xf_law03_VectorTogether_b0, xf_law03_VectorTogether_k0, hx, hpl, hg, hw, h1', h2, h2', h2'', hlen]
  · simp [xf_law03_VectorTogether_b0, S60]
def S61 (l : List Voice) (B : List Bool) (p : List Voice) : St := ⟨[(0, .dat (encVos l)), (13, .own 0 0 l.length), (16, .own 1 0 p.length), (17, .dat (.int .i64 p.length))], [.arr 4 1 true true (B.map Dat.bool), .arr 23 1 false false (p.map fun m => encV m.vec)]⟩
theorem l61 (cf : CallF) (l : List Voice) (B : List Bool) (hl : l.length ≤ 1999998) (hn : 1999999 < n) : loopAt (XCode.run cf n 0 xf_law03_VectorTogether_b1) (headOf 0 xf_law03_VectorTogether_k1) n (S61 l B []) =
    some (.exit 2, ⟨[(0, .dat (encVos l)), (13, .own 0 0 l.length), (16, .own 1 0 l.length)], [.arr 4 1 true true (B.map Dat.bool), .arr 23 1 false false (l.map fun m => encV m.vec)]⟩) := by
  refine loop_pre (S61 l B) l _ (fun p v r hl2 => ?_) ?_ (fun s h => by simp at h) n (by omega)
  · have hx : (p.length : Int) < l.length := by rw [hl2]; simp; omega
    have hpl : p.length < l.length := by rw [hl2]; simp
    have hg : l[p.length] = v := by simp [hl2]
    have hw := wrap_i p.length (by omega)
    have hL : p.length + 1 ≤ LIM := by simp only [LIM]; omega
    simp at hw
    simp [xf_law03_VectorTogether_b1, xf_law03_VectorTogether_k1, S61, hx, hpl, hg, hw, hL]
  · simp [xf_law03_VectorTogether_b1, S61]
def S62 (l : List Voice) (mm : List Draw) (i : Nat) : St := ⟨[(0, .dat (encVos l)), (13, .own 0 0 l.length), (18, .dat (encV mm)), (20, .dat (.int .i64 i))], [.arr 4 1 true true ((l.map fun m => !ov mm m).map Dat.bool)]⟩
theorem l62 (l : List Voice) (mm : List Draw) (hl : l.length ≤ 1999998) (hn : 1999999 < n) : loopAt (XCode.run (runFn T n (d + 3)) n 0 xf_law03_VectorTogether_b2) (headOf 0 xf_law03_VectorTogether_k2) n (S62 l mm 0) = some (.exit 4, ⟨[], [.arr 4 1 true true ((l.map fun m => !ov mm m).map Dat.bool)]⟩) := by
  refine loop_for (S62 l mm) l.length _ (fun i hi => nextK_some ?_) ?_ (fun s h => by simp at h) n (by omega)
  · have hi' : (i : Int) < l.length := by omega
    have hw := wrap_i i (by omega)
    have ho := p30 (n := n) (d := d) mm l[i]
    cases hb : ov mm l[i] <;> rw [hb] at ho <;> simp [xf_law03_VectorTogether_b2, xf_law03_VectorTogether_k2, S62, hi, hi', hw, ho, hb]
  · simp [xf_law03_VectorTogether_b2, S62]
end Go.Ax
