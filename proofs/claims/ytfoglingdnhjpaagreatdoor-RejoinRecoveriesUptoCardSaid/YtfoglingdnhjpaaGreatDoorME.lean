/-
  What a message may be: the document answers alike.
-/
import Derived.Test.YtfoglingdnhjpaaGreatDoorMB
import Derived.Test.YtfoglingdnhjpaaGreatDoorED
namespace Go.Ax
set_option linter.all false
variable {n d : Nat}
set_option maxRecDepth 10000
set_option maxHeartbeats 4000000
theorem e_ref07_fields (c : Cfg) (m : Msg) (hk : 1 ≤ m.kind ∧ m.kind ≤ 14) (hc : cfgOk c) (hl : m.log.length ≤ 1048577) (hn : 1048577 < n) (hu : unusedOk m = true) : runFn T n (d + 4) 67 [.dat (encCfg c), .dat (encM m), .dat (di m.kind), .dat (encBs (rowL m.kind))] [] = some (.dat (.bool (numsOk c m && restOk c m)), []) := by
 rcases kind_cases hk with h | h | h | h | h | h | h | h | h | h | h | h | h | h
 ·rw [h]; exact e_fields_1 c m h hc hl hn hu
 ·rw [h]; exact e_fields_2 c m h hc hl hn hu
 ·rw [h]; exact e_fields_3 c m h hc hl hn hu
 ·rw [h]; exact e_fields_4 c m h hc hl hn hu
 ·rw [h]; exact e_fields_5 c m h hc hl hn hu
 ·rw [h]; exact e_fields_6 c m h hc hl hn hu
 ·rw [h]; exact e_fields_7 c m h hc hl hn hu
 ·rw [h]; exact e_fields_8 c m h hc hl hn hu
 ·rw [h]; exact e_fields_9 c m h hc hl hn hu
 ·rw [h]; exact e_fields_10 c m h hc hl hn hu
 ·rw [h]; exact e_fields_11 c m h hc hl hn hu
 ·rw [h]; exact e_fields_12 c m h hc hl hn hu
 ·rw [h]; exact e_fields_13 c m h hc hl hn hu
 ·rw [h]; exact e_fields_14 c m h hc hl hn hu
theorem e_ref07_Check (c : Cfg) (m : Msg) (hl : m.log.length ≤ 1048577) (hn : 1048577 < n) : runFn T n (d + 5) 25 [.dat (encCfg c), .dat (encM m)] [] = some (.dat (di (msgErr c m)), []) := by
 have h1 := e_ref07_Config (n := n) (d := d + 3) c
 have h2 := e_ref07_Uses (n := n) (d := d + 3) hn m.kind
 by_cases hc : cfgOk c
 ·rw [decide_eq_true hc] at h1
  by_cases hk : 1 ≤ m.kind ∧ m.kind ≤ 14
  ·have h3 := e_ref07_unused (n := n) (d := d + 3) m m.kind hk rfl
   have h4 := e_ref07_fields (n := n) (d := d) c m hk hc hl hn
   have hlen : (rowL m.kind).length = 10 := by unfold rowL; rw [if_pos hk]; rfl
   have hE : msgErr c m = if msgOk c m then 0 else 71 := by unfold msgErr; rw [if_pos hc, if_pos hk]
   rw [runFn_succ, hE]
   unfold msgOk
   generalize rowL m.kind = L at *
   cases hu : unusedOk m
   ·rw [hu] at h3
    simp [T, xf_ref07_Check, h1, h2, h3, hlen]
   ·rw [hu] at h3
    have h4 := h4 hu
    cases hf : (numsOk c m && restOk c m)
    ·rw [hf] at h4
     simp [T, xf_ref07_Check, h1, h2, h3, h4, hlen]
    ·rw [hf] at h4
     simp [T, xf_ref07_Check, h1, h2, h3, h4, hlen]
  ·have hlen : rowL m.kind = [] := by unfold rowL; rw [if_neg hk]
   rw [hlen] at h2
   have hE : msgErr c m = 70 := by unfold msgErr; rw [if_pos hc, if_neg hk]
   rw [runFn_succ, hE]
   simp [T, xf_ref07_Check, h1, h2]
 ·rw [decide_eq_false hc] at h1
  have hE : msgErr c m = 1 := by unfold msgErr; rw [if_neg hc]
  rw [runFn_succ, hE]
  simp [T, xf_ref07_Check, h1]
end Go.Ax
namespace Go.Ax
set_option linter.all false
variable {n d : Nat}
set_option maxRecDepth 10000
set_option maxHeartbeats 4000000
def cmp (x y : Draw) : Int := if x = y then 0 else if x.hi < y.hi ∨ (x.hi = y.hi ∧ x.lo < y.lo) then -1 else 1
theorem cmp_neg (x y : Draw) : cmp y x = - cmp x y := by
 cases x with
 | mk a b => cases y with
  | mk c e =>
   simp only [cmp, Draw.mk.injEq]
   by_cases h1 : a = c <;> by_cases h2 : b = e <;> by_cases h3 : a < c <;> by_cases h4 : b < e <;> simp_all <;> omega
theorem p43 (x y : Draw) : runFn T n (d + 1) 126 [.dat (encD x), .dat (encD y)] [] = some (.dat (.int .i64 (cmp x y)), []) := by
 rw [runFn_succ]
 unfold cmp
 by_cases h0 : x = y
 ·subst h0
  simp [T, xf_nonce_Compare]
 ·by_cases h1 : x.hi < y.hi
  ·have h2 : ¬ x.hi = y.hi := by omega
   simp [T, xf_nonce_Compare, h0, h1, h2]
  ·by_cases h2 : x.hi = y.hi
   ·have h3 : ¬ x.lo = y.lo := fun h3 => h0 (by cases x; cases y; simp_all)
    by_cases h4 : x.lo < y.lo
    ·simp [T, xf_nonce_Compare, h0, h2, h3, h4]
    ·simp [T, xf_nonce_Compare, h0, h2, h3, h4]
   ·simp [T, xf_nonce_Compare, h0, h1, h2]
theorem p64 (x y : Draw) : runFn T n (d + 1) 26 [.dat (encD x), .dat (encD y)] [] = some (.dat (.int .i64 (cmp x y)), []) := by
 rw [runFn_succ]
 unfold cmp
 by_cases h0 : x = y
 ·subst h0
  simp [T, xf_ref02_Compare]
 ·by_cases h1 : x.hi < y.hi
  ·have h2 : ¬ x.hi = y.hi := by omega
   simp [T, xf_ref02_Compare, h0, h1, h2]
  ·by_cases h2 : x.hi = y.hi
   ·have h3 : ¬ x.lo = y.lo := fun h3 => h0 (by cases x; cases y; simp_all)
    by_cases h4 : x.lo < y.lo
    ·simp [T, xf_ref02_Compare, h0, h2, h4]
    ·have h5 : y.lo < x.lo := by omega
     simp [T, xf_ref02_Compare, h0, h2, h4, h5]
   ·simp [T, xf_ref02_Compare, h0, h1, h2]
theorem e_below (x y : Draw) : runFn T n (d + 2) 68 [.dat (encD x), .dat (encD y)] [] = some (.dat (.bool (decide (cmp x y < 0))), []) := by
 have h := p64 (n := n) (d := d) x y
 rw [runFn_succ]
 simp [T, xf_ref09_below, h]
theorem p38 (v : List Draw) : runFn T n (d + 1) 151 [.dat (encV v)] [] = some (.dat (.bool (decide (1 ≤ v.length ∧ v.length ≤ 7))), []) := by
 rw [runFn_succ]
 simp [T, xf_vector_fits]
 rw [Bool.eq_iff_iff]
 simp
 omega
abbrev encL (l : List (List Draw)) : Dat := .sl 1 false (l.map encV)
def mxd (x y : Draw) : Draw := if cmp x y < 0 then y else x
def mxv (o v : List Draw) : List Draw := List.zipWith mxd o v
def badv (k : Nat) (v : List Draw) : Prop := ¬ (1 ≤ v.length ∧ v.length ≤ 7) ∨ v.length ≠ k
instance (k : Nat) (v : List Draw) : Decidable (badv k v) := by unfold badv; infer_instance
def S20 (l : List (List Draw)) (i : Nat) : St := ⟨[(0, .dat (encL l)), (14, .dat (encL l)), (15, .dat (.int .i64 l.length)), (16, .dat (.int .i64 i))], []⟩
theorem check20 (l : List (List Draw)) (v0 : List Draw) (h0 : l[0]? = some v0) (hl : l.length ≤ 1999999) (hn : 1999999 < n) :
  loopAt (XCode.run (runFn T n (d + 1)) n 0 xf_vector_Merge_b0) (headOf 0 xf_vector_Merge_k0) n (S20 l 0) =
   some (if ∃ v ∈ l, badv v0.length v then (.ret, ⟨[(2, .nil 26 2 true), (3, .dat (.int .i64 30))], []⟩) else (.exit 0, ⟨[(0, .dat (encL l))], []⟩)) := by
 have hz : 0 < l.length := (List.getElem?_eq_some_iff.1 h0).1
 have h0' : l[0] = v0 := (List.getElem?_eq_some_iff.1 h0).2
 have main := loop_until (body := XCode.run (runFn T n (d + 1)) n 0 xf_vector_Merge_b0) (head := headOf 0 xf_vector_Merge_k0) (S20 l) l.length (.exit 0, ⟨[(0, .dat (encL l))], []⟩) (fun i => badv v0.length (l.getD i []))
  (fun _ => (.ret, ⟨[(2, .nil 26 2 true), (3, .dat (.int .i64 30))], []⟩)) (fun i hi hs => ?_) (fun i hi hs => ⟨?_, fun s h => by cases h⟩) ?_ (fun s h => by cases h) l.length n 0 (by omega) (by omega)
 ·rcases main with ⟨j, _, hj, hs, _, e⟩ | ⟨hs, e⟩
  ·rw [e, if_pos ⟨l[j], List.getElem_mem hj, by simpa [List.getD, hj] using hs⟩]
  ·rw [e, if_neg]
   rintro ⟨v, hv, hb⟩
   obtain ⟨j, hj, rfl⟩ := List.mem_iff_getElem.1 hv
   exact hs j (Nat.zero_le _) hj (by simpa [List.getD, hj] using hb)
 ·have hi' : (i : Int) < l.length := by omega
  have hw := wrap_i i (by omega)
  have h38 := p38 (n := n) (d := d) l[i]
  simp only [List.getD, List.getElem?_eq_getElem hi, Option.getD_some, badv, not_or, Classical.not_not, ne_eq] at hs
  refine ⟨S20 l (i + 1), ?_, by simp [xf_vector_Merge_k0, S20]⟩
  have e1 : ((l[i].length : Nat) : Int) = v0.length := by omega
  have hf' : decide (1 ≤ l[i].length ∧ l[i].length ≤ 7) = true := decide_eq_true hs.1
  rw [hf'] at h38
  simp [xf_vector_Merge_b0, S20, hi', hi, hz, hw, h38, h0', e1]
 ·have hi' : (i : Int) < l.length := by omega
  have h38 := p38 (n := n) (d := d) l[i]
  simp only [List.getD, List.getElem?_eq_getElem hi, Option.getD_some, badv] at hs
  by_cases hf : 1 ≤ l[i].length ∧ l[i].length ≤ 7
  ·have e1 : ¬ ((l[i].length : Nat) : Int) = v0.length := by
    rcases hs with hs | hs
    ·exact absurd hf hs
    ·omega
   have hf' : decide (1 ≤ l[i].length ∧ l[i].length ≤ 7) = true := decide_eq_true hf
   rw [hf'] at h38
   simp [xf_vector_Merge_b0, S20, hi', hi, hz, h38, h0', e1]
  ·have hf' : decide (1 ≤ l[i].length ∧ l[i].length ≤ 7) = false := by simpa using hf
   rw [hf'] at h38
   simp [xf_vector_Merge_b0, S20, hi', hi, h38]
 ·simp [xf_vector_Merge_b0, S20]
def acc2 (o v : List Draw) (j : Nat) : List Draw := (mxv o v).take j ++ o.drop j
theorem acc2_length {o v : List Draw} (h : o.length = v.length) {j : Nat} (hj : j ≤ o.length) : (acc2 o v j).length = o.length := by
 simp [acc2, mxv]; omega
theorem acc2_get {o v : List Draw} (h : o.length = v.length) {j : Nat} (hj : j < o.length) : (acc2 o v j)[j]? = some o[j] := by
 have : ((mxv o v).take j).length = j := by simp [mxv]; omega
 unfold acc2
 rw [List.getElem?_append_right (by omega), this]
 simp [hj]
theorem acc2_succ {o v : List Draw} (h : o.length = v.length) {j : Nat} (hj : j < o.length) (hv : j < v.length) : acc2 o v (j + 1) = (acc2 o v j).set j (mxd o[j] v[j]) := by
 have h1 : ((mxv o v).take j).length = j := by simp [mxv]; omega
 have h2 : j < (mxv o v).length := by simp [mxv]; omega
 unfold acc2
 rw [List.take_succ_eq_append_getElem h2, List.set_append_right _ _ (by omega), h1, List.drop_eq_getElem_cons hj]
 simp only [mxv, List.getElem_zipWith, Nat.sub_self, List.set_cons_zero, List.append_assoc, List.cons_append, List.nil_append]
def S20j (l : List (List Draw)) (o v : List Draw) (i j : Nat) : St :=
 ⟨[(6, .own 0 0 o.length), (38, .dat (encL l)), (39, .dat (.int .i64 l.length)), (40, .dat (.int .i64 i)), (44, .dat (encV v)), (45, .dat (.int .i64 v.length)), (46, .dat (.int .i64 j))], [.arr 26 2 true false ((acc2 o v j).map encD)]⟩
theorem inner20 (l : List (List Draw)) (o v : List Draw) (i : Nat) (h : o.length = v.length) (hv : v.length ≤ 7) (hn : 1999999 < n) :
  loopAt (XCode.run (runFn T n (d + 1)) n 0 xf_vector_Merge_b2) (headOf 0 xf_vector_Merge_k2) n (S20j l o v i 0) =
   some (.exit 4, ⟨[(6, .own 0 0 o.length), (38, .dat (encL l)), (39, .dat (.int .i64 l.length)), (40, .dat (.int .i64 i))], [.arr 26 2 true false ((mxv o v).map encD)]⟩) := by
 refine loop_for (S20j l o v i) v.length _ (fun j hj => ?_) ?_ (fun s h => by cases h) n (by omega)
 ·have hj' : (j : Int) < v.length := by omega
  have hjo : j < o.length := by omega
  have hjo' : (j : Int) < o.length := by omega
  have hw := wrap_i j (by omega)
  have h43 := p43 (n := n) (d := d) o[j] v[j]
  have hg := acc2_get h hjo
  have hlen := acc2_length h (j := j) (by omega)
  have hg2 : ∀ hh : j < (acc2 o v j).length, (acc2 o v j)[j] = o[j] := fun hh => by rw [List.getElem?_eq_getElem hh] at hg; injection hg
  have hs := acc2_succ h hjo hj
  by_cases hc : cmp o[j] v[j] < 0
  ·have hm : mxd o[j] v[j] = v[j] := if_pos hc
   rw [hm] at hs
   refine ⟨⟨[(6, .own 0 0 o.length), (38, .dat (encL l)), (39, .dat (.int .i64 l.length)), (40, .dat (.int .i64 i)), (44, .dat (encV v)), (45, .dat (.int .i64 v.length)), (46, .dat (.int .i64 (j + 1 : Nat)))], [.arr 26 2 true false ((acc2 o v (j + 1)).map encD), .box [.dat (.int .u64 v[j].hi), .dat (.int .u64 v[j].lo)]]⟩, ?_, ?_⟩
   ·simp [xf_vector_Merge_b2, S20j, hj', hj, hjo, hjo', hw, h43, hg2, hc, hs, hlen]
   ·simp [xf_vector_Merge_k2, S20j]
  ·have hm : mxd o[j] v[j] = o[j] := if_neg hc
   have hs2 : acc2 o v (j + 1) = acc2 o v j := by
    have hh : j < (acc2 o v j).length := by omega
    rw [hs, hm, ← hg2 hh, List.set_getElem_self]
   refine ⟨⟨[(6, .own 0 0 o.length), (38, .dat (encL l)), (39, .dat (.int .i64 l.length)), (40, .dat (.int .i64 i)), (44, .dat (encV v)), (45, .dat (.int .i64 v.length)), (46, .dat (.int .i64 (j + 1 : Nat)))], [.arr 26 2 true false ((acc2 o v j).map encD), .box [.dat (.int .u64 v[j].hi), .dat (.int .u64 v[j].lo)]]⟩, ?_, ?_⟩
   ·simp [xf_vector_Merge_b2, S20j, hj', hj, hjo, hjo', hw, h43, hg2, hc, hlen]
   ·simp [xf_vector_Merge_k2, S20j, hs2]
 ·have e : acc2 o v v.length = mxv o v := by
   unfold acc2
   rw [List.take_of_length_le (by simp [mxv]; omega), List.drop_eq_nil_of_le (by omega), List.append_nil]
  simp [xf_vector_Merge_b2, S20j, e]
def merged (k : Nat) (l : List (List Draw)) : List Draw := l.foldl mxv (List.replicate k ⟨0, 0⟩)
theorem mxv_length {o v : List Draw} (h : o.length = v.length) : (mxv o v).length = o.length := by simp [mxv, h]
theorem foldl_length : ∀ (l : List (List Draw)) (o : List Draw), (∀ v ∈ l, v.length = o.length) → (l.foldl mxv o).length = o.length
 | [], o, _ => rfl
 | v :: l, o, h => by
  have h1 := mxv_length (o := o) (v := v) (h v (by simp)).symm
  rw [List.foldl_cons, foldl_length l _ (fun w hw => by rw [h1]; exact h w (by simp [hw])), h1]
theorem merged_length {k : Nat} {l : List (List Draw)} (h : ∀ v ∈ l, v.length = k) : (merged k l).length = k := by
 unfold merged
 rw [foldl_length _ _ (fun v hv => by simp [h v hv])]
 simp
theorem merged_succ {k : Nat} {l : List (List Draw)} {i : Nat} (hi : i < l.length) : merged k (l.take (i + 1)) = mxv (merged k (l.take i)) l[i] := by
 unfold merged
 rw [List.take_succ_eq_append_getElem hi, List.foldl_append]
 rfl
def S20i (k : Nat) (l : List (List Draw)) (i : Nat) : St :=
 ⟨[(6, .own 0 0 k), (38, .dat (encL l)), (39, .dat (.int .i64 l.length)), (40, .dat (.int .i64 i))], [.arr 26 2 true false ((merged k (l.take i)).map encD)]⟩
theorem outer20 (k : Nat) (hk : k ≤ 7) (l : List (List Draw)) (hl : l.length ≤ 1999999) (hv : ∀ v ∈ l, v.length = k) (hn : 1999999 < n) :
  loopAt (XCode.run (runFn T n (d + 1)) n 0 xf_vector_Merge_b1) (headOf 0 xf_vector_Merge_k1) n (S20i k l 0) = some (.exit 2, ⟨[(6, .own 0 0 k)], [.arr 26 2 true false ((merged k l).map encD)]⟩) := by
 refine loop_for (S20i k l) l.length _ (fun i hi => ?_) ?_ (fun s h => by cases h) n (by omega)
 ·have hi' : (i : Int) < l.length := by omega
  have hw := wrap_i i (by omega)
  have hm := merged_length (k := k) (l := l.take i) (fun v h => hv v (List.mem_of_mem_take h))
  have hvi := hv l[i] (List.getElem_mem hi)
  have h0 := inner20 (n := n) (d := d) l (merged k (l.take i)) l[i] i (by rw [hm, hvi]) (by omega) hn
  rw [← merged_succ hi] at h0
  simp [S20j, acc2, xf_vector_Merge_k2, hm] at h0
  refine ⟨S20i k l (i + 1), ?_, by simp [xf_vector_Merge_k1, S20i]⟩
  simp [xf_vector_Merge_b1, S20i, xf_vector_Merge_k2, hi', hi, hw, h0]
 ·simp [xf_vector_Merge_b1, S20i]
def badl (l : List (List Draw)) : Prop := l = [] ∨ ∃ v ∈ l, badv (l.headD []).length v
instance (l : List (List Draw)) : Decidable (badl l) := by unfold badl; infer_instance
def mergeR (l : List (List Draw)) : List Draw := if badl l then [] else merged (l.headD []).length l
def mergeE (l : List (List Draw)) : Int := if badl l then 30 else 0
theorem p20 (l : List (List Draw)) (hl : l.length ≤ 1999999) (hn : 1999999 < n) : runFn T n (d + 2) 127 [.dat (encL l)] [] =
  some (.tup [.dat (encV (mergeR l)), .dat (.int .i64 (mergeE l))], []) := by
 rw [runFn_succ]
 unfold mergeR mergeE
 cases l with
 | nil => simp [T, xf_vector_Merge, badl]
 | cons v0 r =>
  have hc := check20 (n := n) (d := d) (v0 :: r) v0 rfl hl hn
  simp [S20, xf_vector_Merge_k0] at hc
  have hne : ¬ ((r.length : Int) + 1 = 0) := by omega
  by_cases hb : badl (v0 :: r)
  ·have hb' : badv v0.length v0 ∨ ∃ a ∈ r, badv v0.length a := by simpa [badl] using hb
   rw [if_pos hb, if_pos hb]
   simp [hb'] at hc
   simp [T, xf_vector_Merge, xf_vector_Merge_k0, hc, hne]
  ·have hb' : ¬ (badv v0.length v0 ∨ ∃ a ∈ r, badv v0.length a) := by simpa [badl] using hb
   rw [if_neg hb, if_neg hb]
   rw [if_neg hb'] at hc
   have hall : ∀ v ∈ v0 :: r, v.length = v0.length ∧ v.length ≤ 7 := fun v hv => by
    have : ¬ badv v0.length v := fun h => by
     rcases List.mem_cons.1 hv with e | e
     ·subst e; exact hb' (.inl h)
     ·exact hb' (.inr ⟨v, e, h⟩)
    simp only [badv, not_or, Classical.not_not, ne_eq] at this
    exact ⟨this.2, this.1.2⟩
   have h7 := (hall v0 (by simp)).2
   have ho := outer20 (n := n) (d := d) v0.length h7 (v0 :: r) hl (fun v hv => (hall v hv).1) hn
   have hz : merged v0.length [] = List.replicate v0.length ⟨0, 0⟩ := rfl
   simp [S20i, xf_vector_Merge_k1, hz] at ho
   have hL : (v0.length : Int) ≤ (LIM : Int) := by simp only [LIM]; omega
   have hml := merged_length (k := v0.length) (l := v0 :: r) (fun v hv => (hall v hv).1)
   have ht : ((merged v0.length (v0 :: r)).map encD).take v0.length = (merged v0.length (v0 :: r)).map encD := List.take_of_length_le (by simp [hml])
   simp [T, xf_vector_Merge, xf_vector_Merge_k0, xf_vector_Merge_k1, hc, hne, ho, hL, hml, ht]
abbrev encVo (node : Int) (v : List Draw) : Dat := .agg [di node, encV v]
theorem e_speaks (node : Int) (v : List Draw) (h : 1 ≤ v.length ∧ v.length ≤ 7) (hnd : 0 ≤ node ∧ node < v.length) : runFn T n (d + 2) 150 [.dat (encVo node v)] [] = some (.dat (.bool true), []) := by
 have h1 := p38 (n := n) (d := d) v
 rw [decide_eq_true h] at h1
 rw [runFn_succ]
 simp [T, xf_vector_speaks, h1, hnd]
theorem e_Over (o v : List Draw) (node : Int) (h : 1 ≤ v.length ∧ v.length ≤ 7) (hov : o.length = v.length) (hnd : 0 ≤ node ∧ node < v.length) :
  runFn T n (d + 3) 125 [.dat (encV o), .dat (encVo node v)] [] = some (.dat (.bool (decide (0 < cmp (o.getD node.toNat ⟨0, 0⟩) (v.getD node.toNat ⟨0, 0⟩)))), []) := by
 have h1 := e_speaks (n := n) (d := d) node v h hnd
 have k1 : node.toNat < v.length := by omega
 have k2 : node.toNat < o.length := by omega
 have k3 : node < o.length := by omega
 have h2 := p43 (n := n) (d := d + 1) o[node.toNat] v[node.toNat]
 have g1 : o.getD node.toNat ⟨0, 0⟩ = o[node.toNat] := by simp [List.getD, k2]
 have g2 : v.getD node.toNat ⟨0, 0⟩ = v[node.toNat] := by simp [List.getD, k1]
 rw [g1, g2, runFn_succ]
 simp [T, xf_vector_Over, h1, h2, hnd, k1, k2, k3, hov]
end Go.Ax
namespace Go.Ax
set_option linter.all false
variable {n d : Nat}
set_option maxRecDepth 10000
set_option maxHeartbeats 4000000
def lives (v : List Draw) (node : Int) (x : Draw) : Bool := decide (0 ≤ cmp x (v.getD node.toNat ⟨0, 0⟩))
theorem e_ack_node (x : Ack) : runFn T n (d + 1) 196 [.dat (encAck x)] [] = some (.dat (di x.node), []) := by
 rw [runFn_succ]; simp [T, xf_tally_ack_node]
theorem e_ack_draw (x : Ack) : runFn T n (d + 1) 194 [.dat (encAck x)] [] = some (.dat (encD x.draw), []) := by
 rw [runFn_succ]; simp [T, xf_tally_ack_draw]
theorem e_ack_fresh (x : Ack) : runFn T n (d + 1) 195 [.dat (encAck x)] [] = some (.dat (encAck x), []) := by
 skip
 rw [runFn_succ]; simp [T, xf_tally_ack_fresh]
theorem e_toAck (x : Ack) : runFn T n (d + 1) 154 [.dat (encAck x)] [] = some (.dat (encAck x), []) := by
 rw [runFn_succ]; simp [T, xf_tally_toAck]
theorem e_fromAck (x : Ack) : runFn T n (d + 1) 156 [.dat (encAck x)] [] = some (.dat (encAck x), []) := by
 rw [runFn_succ]; simp [T, xf_tally_fromAck]
def S_turned_Ack_ack (l p : List Ack) : St := ⟨[(1, .fn (.func 154) [] []), (5, .own 0 0 p.length), (8, .dat (encAcks l)), (9, .dat (di l.length)), (10, .dat (di p.length))], [.arr 208 4 true false (p.map encAck)]⟩
theorem e_turned_Ack_ack (l : List Ack) (hl : l.length ≤ 1048577) (hn : 1048577 < n) : runFn T n (d + 2) 153 [.dat (encAcks l), .fn (.func 154) [] []] [] = some (.dat (encAcks l), []) := by
 have h0 : loopAt (XCode.run (runFn T n (d + 1)) n 0 xf_tally_turned_Ack_ack_b0) (headOf 0 xf_tally_turned_Ack_ack_k0) n (S_turned_Ack_ack l []) = some (.exit 0, ⟨[(5, .own 0 0 l.length)], [.arr 208 4 true false (l.map encAck)]⟩) := by
  refine loop_pre (S_turned_Ack_ack l) l (.exit 0, ⟨[(5, .own 0 0 l.length)], [.arr 208 4 true false (l.map encAck)]⟩) (fun p v r hl' => ?_) ?_ (fun s h => by simp at h) n (by omega)
  ·have hx : (p.length : Int) < p.length + (r.length + 1) := by omega
   have hp : p.length ≤ 1048577 := by have : l.length = p.length + (r.length + 1) := (by simp [hl']); omega
   have hw := wrap_i p.length (by omega)
   have hL : p.length + 1 ≤ LIM := by simp only [LIM]; omega
   have e1 := e_toAck (n := n) (d := d) v
   simp at hw
   simp [xf_tally_turned_Ack_ack_b0, xf_tally_turned_Ack_ack_k0, S_turned_Ack_ack, hl', hx, hw, hL, e1]
  ·simp [xf_tally_turned_Ack_ack_b0, S_turned_Ack_ack]
 simp [S_turned_Ack_ack, xf_tally_turned_Ack_ack_k0] at h0
 rw [runFn_succ]
 simp [T, xf_tally_turned_Ack_ack, xf_tally_turned_Ack_ack_k0, h0]
def S_turned_ack_Ack (l p : List Ack) : St := ⟨[(1, .fn (.func 156) [] []), (5, .own 0 0 p.length), (8, .dat (encAcks l)), (9, .dat (di l.length)), (10, .dat (di p.length))], [.arr 123 4 true false (p.map encAck)]⟩
theorem e_turned_ack_Ack (l : List Ack) (hl : l.length ≤ 1048577) (hn : 1048577 < n) : runFn T n (d + 2) 152 [.dat (encAcks l), .fn (.func 156) [] []] [] = some (.dat (encAcks l), []) := by
 have h0 : loopAt (XCode.run (runFn T n (d + 1)) n 0 xf_tally_turned_ack_Ack_b0) (headOf 0 xf_tally_turned_ack_Ack_k0) n (S_turned_ack_Ack l []) = some (.exit 0, ⟨[(5, .own 0 0 l.length)], [.arr 123 4 true false (l.map encAck)]⟩) := by
  refine loop_pre (S_turned_ack_Ack l) l (.exit 0, ⟨[(5, .own 0 0 l.length)], [.arr 123 4 true false (l.map encAck)]⟩) (fun p v r hl' => ?_) ?_ (fun s h => by simp at h) n (by omega)
  ·have hx : (p.length : Int) < p.length + (r.length + 1) := by omega
   have hp : p.length ≤ 1048577 := by have : l.length = p.length + (r.length + 1) := (by simp [hl']); omega
   have hw := wrap_i p.length (by omega)
   have hL : p.length + 1 ≤ LIM := by simp only [LIM]; omega
   have e1 := e_fromAck (n := n) (d := d) v
   simp at hw
   simp [xf_tally_turned_ack_Ack_b0, xf_tally_turned_ack_Ack_k0, S_turned_ack_Ack, hl', hx, hw, hL, e1]
  ·simp [xf_tally_turned_ack_Ack_b0, S_turned_ack_Ack]
 simp [S_turned_ack_Ack, xf_tally_turned_ack_Ack_k0] at h0
 rw [runFn_succ]
 simp [T, xf_tally_turned_ack_Ack, xf_tally_turned_ack_Ack_k0, h0]
def keepAck (v : List Draw) (x : Ack) : Bool := lives v x.node x.draw
def goP_ack (v : List Draw) (a : List Ack) (x : Ack) : List Ack := if keepAck v x = true then a ++ [x] else a
def S_prune_ack (v : List Draw) (l : List Ack) (i : Nat) (a : List Ack) : St := ⟨[(1, .dat (encV v)), (5, .own 0 0 a.length), (10, .dat (encAcks l)), (11, .dat (di l.length)), (12, .dat (di i))], [.arr 208 4 true false (a.map encAck)]⟩
theorem e_prune_ack (v : List Draw) (l : List Ack) (hl : l.length ≤ 1048577) (hv : ∀ x ∈ l, 0 ≤ x.node ∧ x.node < v.length) (hn : 1048577 < n) :
  runFn T n (d + 2) 155 [.dat (.agg [encAcks l]), .dat (encV v)] [] = some (.dat (encAcks (l.filter (keepAck v))), []) := by
 have h0 : loopAt (XCode.run (runFn T n (d + 1)) n 0 xf_tally_box_ack_prune_b0) (headOf 0 xf_tally_box_ack_prune_k0) n (S_prune_ack v l 0 []) = some ((fun a => (.exit 0, ⟨[(5, .own 0 0 a.length)], [.arr 208 4 true false (a.map encAck)]⟩)) (l.foldl (goP_ack v) [])) := by
  refine loop_fold (S_prune_ack v l) (fun i a => a.length ≤ i) l (goP_ack v) (fun a => (.exit 0, ⟨[(5, .own 0 0 a.length)], [.arr 208 4 true false (a.map encAck)]⟩)) [] (by simp) (fun i a hi hI => ?_) (fun a _ => ?_) (fun a s h => by simp at h) n (by omega)
  ·have hI : a.length ≤ i := hI
   have hi' : (i : Int) < l.length := by omega
   have hw := wrap_i i (by omega)
   have hL : a.length + 1 ≤ LIM := by simp only [LIM]; omega
   obtain ⟨v1, v2⟩ := hv l[i] (List.getElem_mem hi)
   have v3 : ¬ l[i].node < 0 := by omega
   have v4 : ¬ (v.length : Int) ≤ l[i].node := by omega
   have v5 : l[i].node.toNat < v.length := by omega
   have e1 := e_ack_node (n := n) (d := d) l[i]
   have e2 := e_ack_draw (n := n) (d := d) l[i]
   have e3 := e_ack_fresh (n := n) (d := d) l[i]
   have e4 := p43 (n := n) (d := d) l[i].draw v[l[i].node.toNat]
   have g : v.getD l[i].node.toNat ⟨0, 0⟩ = v[l[i].node.toNat] := by simp [List.getD, v5]
   refine ⟨by unfold goP_ack; split <;> (try simp) <;> omega, nextK_some ?_⟩
   unfold goP_ack keepAck lives
   rw [g]
   by_cases hq : 0 ≤ cmp l[i].draw v[l[i].node.toNat]
   ·simp [xf_tally_box_ack_prune_b0, xf_tally_box_ack_prune_k0, S_prune_ack, hi, hi', hw, hL, v1, v2, v3, v4, v5, e1, e2, e3, e4, hq]
   ·simp [xf_tally_box_ack_prune_b0, xf_tally_box_ack_prune_k0, S_prune_ack, hi, hi', hw, hL, v1, v2, v3, v4, v5, e1, e2, e3, e4, hq]
  ·simp [xf_tally_box_ack_prune_b0, S_prune_ack]
 have hf : l.foldl (goP_ack v) [] = l.filter (keepAck v) := by
  have := foldl_snoc_filter (fun x => keepAck v x = true) l []
  simp only [List.nil_append, Bool.decide_eq_true] at this
  exact this
 rw [hf] at h0
 simp [S_prune_ack, xf_tally_box_ack_prune_k0] at h0
 rw [runFn_succ]
 simp [T, xf_tally_box_ack_prune, xf_tally_box_ack_prune_k0, h0]
theorem e_PruneAcks (v : List Draw) (l : List Ack) (hl : l.length ≤ 1048577) (hv : ∀ x ∈ l, 0 ≤ x.node ∧ x.node < v.length) (hn : 1048577 < n) :
  runFn T n (d + 3) 128 [.dat (encAcks l), .dat (encV v)] [] = some (.dat (encAcks (l.filter (keepAck v))), []) := by
 have e1 := e_turned_Ack_ack (n := n) (d := d) l hl hn
 have e2 := e_prune_ack (n := n) (d := d) v l hl hv hn
 have e3 := e_turned_ack_Ack (n := n) (d := d) (l.filter (keepAck v)) (Nat.le_trans (List.length_filter_le _ _) hl) hn
 rw [runFn_succ]
 simp [T, xf_tally_PruneAcks, e1, e2, e3]
theorem e_mark_node (x : Mark) : runFn T n (d + 1) 201 [.dat (encMark x)] [] = some (.dat (di x.node), []) := by
 rw [runFn_succ]; simp [T, xf_tally_mark_node]
theorem e_mark_draw (x : Mark) : runFn T n (d + 1) 199 [.dat (encMark x)] [] = some (.dat (encD x.draw), []) := by
 rw [runFn_succ]; simp [T, xf_tally_mark_draw]
theorem e_mark_fresh (x : Mark) : runFn T n (d + 1) 200 [.dat (encMark x)] [] = some (.dat (encMark x), []) := by
 skip
 rw [runFn_succ]; simp [T, xf_tally_mark_fresh]
theorem e_toMark (x : Mark) : runFn T n (d + 1) 159 [.dat (encMark x)] [] = some (.dat (encMark x), []) := by
 rw [runFn_succ]; simp [T, xf_tally_toMark]
theorem e_fromMark (x : Mark) : runFn T n (d + 1) 161 [.dat (encMark x)] [] = some (.dat (encMark x), []) := by
 rw [runFn_succ]; simp [T, xf_tally_fromMark]
def S_turned_Mark_mark (l p : List Mark) : St := ⟨[(1, .fn (.func 159) [] []), (5, .own 0 0 p.length), (8, .dat (encMarks l)), (9, .dat (di l.length)), (10, .dat (di p.length))], [.arr 217 3 true false (p.map encMark)]⟩
theorem e_turned_Mark_mark (l : List Mark) (hl : l.length ≤ 1048577) (hn : 1048577 < n) : runFn T n (d + 2) 158 [.dat (encMarks l), .fn (.func 159) [] []] [] = some (.dat (encMarks l), []) := by
 have h0 : loopAt (XCode.run (runFn T n (d + 1)) n 0 xf_tally_turned_Mark_mark_b0) (headOf 0 xf_tally_turned_Mark_mark_k0) n (S_turned_Mark_mark l []) = some (.exit 0, ⟨[(5, .own 0 0 l.length)], [.arr 217 3 true false (l.map encMark)]⟩) := by
  refine loop_pre (S_turned_Mark_mark l) l (.exit 0, ⟨[(5, .own 0 0 l.length)], [.arr 217 3 true false (l.map encMark)]⟩) (fun p v r hl' => ?_) ?_ (fun s h => by simp at h) n (by omega)
  ·have hx : (p.length : Int) < p.length + (r.length + 1) := by omega
   have hp : p.length ≤ 1048577 := by have : l.length = p.length + (r.length + 1) := (by simp [hl']); omega
   have hw := wrap_i p.length (by omega)
   have hL : p.length + 1 ≤ LIM := by simp only [LIM]; omega
   have e1 := e_toMark (n := n) (d := d) v
   simp at hw
   simp [xf_tally_turned_Mark_mark_b0, xf_tally_turned_Mark_mark_k0, S_turned_Mark_mark, hl', hx, hw, hL, e1]
  ·simp [xf_tally_turned_Mark_mark_b0, S_turned_Mark_mark]
 simp [S_turned_Mark_mark, xf_tally_turned_Mark_mark_k0] at h0
 rw [runFn_succ]
 simp [T, xf_tally_turned_Mark_mark, xf_tally_turned_Mark_mark_k0, h0]
def S_turned_mark_Mark (l p : List Mark) : St := ⟨[(1, .fn (.func 161) [] []), (5, .own 0 0 p.length), (8, .dat (encMarks l)), (9, .dat (di l.length)), (10, .dat (di p.length))], [.arr 125 3 true false (p.map encMark)]⟩
theorem e_turned_mark_Mark (l : List Mark) (hl : l.length ≤ 1048577) (hn : 1048577 < n) : runFn T n (d + 2) 157 [.dat (encMarks l), .fn (.func 161) [] []] [] = some (.dat (encMarks l), []) := by
 have h0 : loopAt (XCode.run (runFn T n (d + 1)) n 0 xf_tally_turned_mark_Mark_b0) (headOf 0 xf_tally_turned_mark_Mark_k0) n (S_turned_mark_Mark l []) = some (.exit 0, ⟨[(5, .own 0 0 l.length)], [.arr 125 3 true false (l.map encMark)]⟩) := by
  refine loop_pre (S_turned_mark_Mark l) l (.exit 0, ⟨[(5, .own 0 0 l.length)], [.arr 125 3 true false (l.map encMark)]⟩) (fun p v r hl' => ?_) ?_ (fun s h => by simp at h) n (by omega)
  ·have hx : (p.length : Int) < p.length + (r.length + 1) := by omega
   have hp : p.length ≤ 1048577 := by have : l.length = p.length + (r.length + 1) := (by simp [hl']); omega
   have hw := wrap_i p.length (by omega)
   have hL : p.length + 1 ≤ LIM := by simp only [LIM]; omega
   have e1 := e_fromMark (n := n) (d := d) v
   simp at hw
   simp [xf_tally_turned_mark_Mark_b0, xf_tally_turned_mark_Mark_k0, S_turned_mark_Mark, hl', hx, hw, hL, e1]
  ·simp [xf_tally_turned_mark_Mark_b0, S_turned_mark_Mark]
 simp [S_turned_mark_Mark, xf_tally_turned_mark_Mark_k0] at h0
 rw [runFn_succ]
 simp [T, xf_tally_turned_mark_Mark, xf_tally_turned_mark_Mark_k0, h0]
def keepMark (v : List Draw) (x : Mark) : Bool := lives v x.node x.draw
def goP_mark (v : List Draw) (a : List Mark) (x : Mark) : List Mark := if keepMark v x = true then a ++ [x] else a
def S_prune_mark (v : List Draw) (l : List Mark) (i : Nat) (a : List Mark) : St := ⟨[(1, .dat (encV v)), (5, .own 0 0 a.length), (10, .dat (encMarks l)), (11, .dat (di l.length)), (12, .dat (di i))], [.arr 217 3 true false (a.map encMark)]⟩
theorem e_prune_mark (v : List Draw) (l : List Mark) (hl : l.length ≤ 1048577) (hv : ∀ x ∈ l, 0 ≤ x.node ∧ x.node < v.length) (hn : 1048577 < n) :
  runFn T n (d + 2) 160 [.dat (.agg [encMarks l]), .dat (encV v)] [] = some (.dat (encMarks (l.filter (keepMark v))), []) := by
 have h0 : loopAt (XCode.run (runFn T n (d + 1)) n 0 xf_tally_box_mark_prune_b0) (headOf 0 xf_tally_box_mark_prune_k0) n (S_prune_mark v l 0 []) = some ((fun a => (.exit 0, ⟨[(5, .own 0 0 a.length)], [.arr 217 3 true false (a.map encMark)]⟩)) (l.foldl (goP_mark v) [])) := by
  refine loop_fold (S_prune_mark v l) (fun i a => a.length ≤ i) l (goP_mark v) (fun a => (.exit 0, ⟨[(5, .own 0 0 a.length)], [.arr 217 3 true false (a.map encMark)]⟩)) [] (by simp) (fun i a hi hI => ?_) (fun a _ => ?_) (fun a s h => by simp at h) n (by omega)
  ·have hI : a.length ≤ i := hI
   have hi' : (i : Int) < l.length := by omega
   have hw := wrap_i i (by omega)
   have hL : a.length + 1 ≤ LIM := by simp only [LIM]; omega
   obtain ⟨v1, v2⟩ := hv l[i] (List.getElem_mem hi)
   have v3 : ¬ l[i].node < 0 := by omega
   have v4 : ¬ (v.length : Int) ≤ l[i].node := by omega
   have v5 : l[i].node.toNat < v.length := by omega
   have e1 := e_mark_node (n := n) (d := d) l[i]
   have e2 := e_mark_draw (n := n) (d := d) l[i]
   have e3 := e_mark_fresh (n := n) (d := d) l[i]
   have e4 := p43 (n := n) (d := d) l[i].draw v[l[i].node.toNat]
   have g : v.getD l[i].node.toNat ⟨0, 0⟩ = v[l[i].node.toNat] := by simp [List.getD, v5]
   refine ⟨by unfold goP_mark; split <;> (try simp) <;> omega, nextK_some ?_⟩
   unfold goP_mark keepMark lives
   rw [g]
   by_cases hq : 0 ≤ cmp l[i].draw v[l[i].node.toNat]
   ·simp [xf_tally_box_mark_prune_b0, xf_tally_box_mark_prune_k0, S_prune_mark, hi, hi', hw, hL, v1, v2, v3, v4, v5, e1, e2, e3, e4, hq]
   ·simp [xf_tally_box_mark_prune_b0, xf_tally_box_mark_prune_k0, S_prune_mark, hi, hi', hw, hL, v1, v2, v3, v4, v5, e1, e2, e3, e4, hq]
  ·simp [xf_tally_box_mark_prune_b0, S_prune_mark]
 have hf : l.foldl (goP_mark v) [] = l.filter (keepMark v) := by
  have := foldl_snoc_filter (fun x => keepMark v x = true) l []
  simp only [List.nil_append, Bool.decide_eq_true] at this
  exact this
 rw [hf] at h0
 simp [S_prune_mark, xf_tally_box_mark_prune_k0] at h0
 rw [runFn_succ]
 simp [T, xf_tally_box_mark_prune, xf_tally_box_mark_prune_k0, h0]
theorem e_PruneMarks (v : List Draw) (l : List Mark) (hl : l.length ≤ 1048577) (hv : ∀ x ∈ l, 0 ≤ x.node ∧ x.node < v.length) (hn : 1048577 < n) :
  runFn T n (d + 3) 129 [.dat (encMarks l), .dat (encV v)] [] = some (.dat (encMarks (l.filter (keepMark v))), []) := by
 have e1 := e_turned_Mark_mark (n := n) (d := d) l hl hn
 have e2 := e_prune_mark (n := n) (d := d) v l hl hv hn
 have e3 := e_turned_mark_Mark (n := n) (d := d) (l.filter (keepMark v)) (Nat.le_trans (List.length_filter_le _ _) hl) hn
 rw [runFn_succ]
 simp [T, xf_tally_PruneMarks, e1, e2, e3]
theorem e_ballot_node (x : Ballot) : runFn T n (d + 1) 206 [.dat (encBal x)] [] = some (.dat (di x.node), []) := by
 rw [runFn_succ]; simp [T, xf_tally_ballot_node]
theorem e_ballot_draw (x : Ballot) : runFn T n (d + 1) 204 [.dat (encBal x)] [] = some (.dat (encD x.draw), []) := by
 rw [runFn_succ]; simp [T, xf_tally_ballot_draw]
theorem e_ballot_fresh (x : Ballot) (hx : x.log.length ≤ 1048577) : runFn T n (d + 1) 205 [.dat (encBal x)] [] = some (.dat (encBal x), []) := by
 have hL : x.log.length ≤ LIM := by simp only [LIM]; omega
 rw [runFn_succ]; simp [T, xf_tally_ballot_fresh, hL]
theorem e_toBallot (x : Ballot) : runFn T n (d + 1) 164 [.dat (encBal x)] [] = some (.dat (encBal x), []) := by
 rw [runFn_succ]; simp [T, xf_tally_toBallot]
theorem e_fromBallot (x : Ballot) : runFn T n (d + 1) 166 [.dat (encBal x)] [] = some (.dat (encBal x), []) := by
 rw [runFn_succ]; simp [T, xf_tally_fromBallot]
def S_turned_Ballot_ballot (l p : List Ballot) : St := ⟨[(1, .fn (.func 164) [] []), (5, .own 0 0 p.length), (8, .dat (encBals l)), (9, .dat (di l.length)), (10, .dat (di p.length))], [.arr 226 6 false false (p.map encBal)]⟩
theorem e_turned_Ballot_ballot (l : List Ballot) (hl : l.length ≤ 1048577) (hn : 1048577 < n) : runFn T n (d + 2) 163 [.dat (encBals l), .fn (.func 164) [] []] [] = some (.dat (encBals l), []) := by
 have h0 : loopAt (XCode.run (runFn T n (d + 1)) n 0 xf_tally_turned_Ballot_ballot_b0) (headOf 0 xf_tally_turned_Ballot_ballot_k0) n (S_turned_Ballot_ballot l []) = some (.exit 0, ⟨[(5, .own 0 0 l.length)], [.arr 226 6 false false (l.map encBal)]⟩) := by
  refine loop_pre (S_turned_Ballot_ballot l) l (.exit 0, ⟨[(5, .own 0 0 l.length)], [.arr 226 6 false false (l.map encBal)]⟩) (fun p v r hl' => ?_) ?_ (fun s h => by simp at h) n (by omega)
  ·have hx : (p.length : Int) < p.length + (r.length + 1) := by omega
   have hp : p.length ≤ 1048577 := by have : l.length = p.length + (r.length + 1) := (by simp [hl']); omega
   have hw := wrap_i p.length (by omega)
   have hL : p.length + 1 ≤ LIM := by simp only [LIM]; omega
   have e1 := e_toBallot (n := n) (d := d) v
   simp at hw
   simp [xf_tally_turned_Ballot_ballot_b0, xf_tally_turned_Ballot_ballot_k0, S_turned_Ballot_ballot, hl', hx, hw, hL, e1]
  ·simp [xf_tally_turned_Ballot_ballot_b0, S_turned_Ballot_ballot]
 simp [S_turned_Ballot_ballot, xf_tally_turned_Ballot_ballot_k0] at h0
 rw [runFn_succ]
 simp [T, xf_tally_turned_Ballot_ballot, xf_tally_turned_Ballot_ballot_k0, h0]
def S_turned_ballot_Ballot (l p : List Ballot) : St := ⟨[(1, .fn (.func 166) [] []), (5, .own 0 0 p.length), (8, .dat (encBals l)), (9, .dat (di l.length)), (10, .dat (di p.length))], [.arr 98 6 false false (p.map encBal)]⟩
theorem e_turned_ballot_Ballot (l : List Ballot) (hl : l.length ≤ 1048577) (hn : 1048577 < n) : runFn T n (d + 2) 162 [.dat (encBals l), .fn (.func 166) [] []] [] = some (.dat (encBals l), []) := by
 have h0 : loopAt (XCode.run (runFn T n (d + 1)) n 0 xf_tally_turned_ballot_Ballot_b0) (headOf 0 xf_tally_turned_ballot_Ballot_k0) n (S_turned_ballot_Ballot l []) = some (.exit 0, ⟨[(5, .own 0 0 l.length)], [.arr 98 6 false false (l.map encBal)]⟩) := by
  refine loop_pre (S_turned_ballot_Ballot l) l (.exit 0, ⟨[(5, .own 0 0 l.length)], [.arr 98 6 false false (l.map encBal)]⟩) (fun p v r hl' => ?_) ?_ (fun s h => by simp at h) n (by omega)
  ·have hx : (p.length : Int) < p.length + (r.length + 1) := by omega
   have hp : p.length ≤ 1048577 := by have : l.length = p.length + (r.length + 1) := (by simp [hl']); omega
   have hw := wrap_i p.length (by omega)
   have hL : p.length + 1 ≤ LIM := by simp only [LIM]; omega
   have e1 := e_fromBallot (n := n) (d := d) v
   simp at hw
   simp [xf_tally_turned_ballot_Ballot_b0, xf_tally_turned_ballot_Ballot_k0, S_turned_ballot_Ballot, hl', hx, hw, hL, e1]
  ·simp [xf_tally_turned_ballot_Ballot_b0, S_turned_ballot_Ballot]
 simp [S_turned_ballot_Ballot, xf_tally_turned_ballot_Ballot_k0] at h0
 rw [runFn_succ]
 simp [T, xf_tally_turned_ballot_Ballot, xf_tally_turned_ballot_Ballot_k0, h0]
def keepBallot (v : List Draw) (x : Ballot) : Bool := lives v x.node x.draw
def goP_ballot (v : List Draw) (a : List Ballot) (x : Ballot) : List Ballot := if keepBallot v x = true then a ++ [x] else a
def S_prune_ballot (v : List Draw) (l : List Ballot) (i : Nat) (a : List Ballot) : St := ⟨[(1, .dat (encV v)), (5, .own 0 0 a.length), (10, .dat (encBals l)), (11, .dat (di l.length)), (12, .dat (di i))], [.arr 226 6 false false (a.map encBal)]⟩
theorem e_prune_ballot (v : List Draw) (l : List Ballot) (hl : l.length ≤ 1048577) (hb : ∀ x ∈ l, x.log.length ≤ 1048577) (hv : ∀ x ∈ l, 0 ≤ x.node ∧ x.node < v.length) (hn : 1048577 < n) :
  runFn T n (d + 2) 165 [.dat (.agg [encBals l]), .dat (encV v)] [] = some (.dat (encBals (l.filter (keepBallot v))), []) := by
 have h0 : loopAt (XCode.run (runFn T n (d + 1)) n 0 xf_tally_box_ballot_prune_b0) (headOf 0 xf_tally_box_ballot_prune_k0) n (S_prune_ballot v l 0 []) = some ((fun a => (.exit 0, ⟨[(5, .own 0 0 a.length)], [.arr 226 6 false false (a.map encBal)]⟩)) (l.foldl (goP_ballot v) [])) := by
  refine loop_fold (S_prune_ballot v l) (fun i a => a.length ≤ i) l (goP_ballot v) (fun a => (.exit 0, ⟨[(5, .own 0 0 a.length)], [.arr 226 6 false false (a.map encBal)]⟩)) [] (by simp) (fun i a hi hI => ?_) (fun a _ => ?_) (fun a s h => by simp at h) n (by omega)
  ·have hI : a.length ≤ i := hI
   have hi' : (i : Int) < l.length := by omega
   have hw := wrap_i i (by omega)
   have hL : a.length + 1 ≤ LIM := by simp only [LIM]; omega
   obtain ⟨v1, v2⟩ := hv l[i] (List.getElem_mem hi)
   have v3 : ¬ l[i].node < 0 := by omega
   have v4 : ¬ (v.length : Int) ≤ l[i].node := by omega
   have v5 : l[i].node.toNat < v.length := by omega
   have e1 := e_ballot_node (n := n) (d := d) l[i]
   have e2 := e_ballot_draw (n := n) (d := d) l[i]
   have e3 := e_ballot_fresh (n := n) (d := d) l[i] (hb _ (List.getElem_mem hi))
   have e4 := p43 (n := n) (d := d) l[i].draw v[l[i].node.toNat]
   have g : v.getD l[i].node.toNat ⟨0, 0⟩ = v[l[i].node.toNat] := by simp [List.getD, v5]
   refine ⟨by unfold goP_ballot; split <;> (try simp) <;> omega, nextK_some ?_⟩
   unfold goP_ballot keepBallot lives
   rw [g]
   by_cases hq : 0 ≤ cmp l[i].draw v[l[i].node.toNat]
   ·simp [xf_tally_box_ballot_prune_b0, xf_tally_box_ballot_prune_k0, S_prune_ballot, hi, hi', hw, hL, v1, v2, v3, v4, v5, e1, e2, e3, e4, hq]
   ·simp [xf_tally_box_ballot_prune_b0, xf_tally_box_ballot_prune_k0, S_prune_ballot, hi, hi', hw, hL, v1, v2, v3, v4, v5, e1, e2, e3, e4, hq]
  ·simp [xf_tally_box_ballot_prune_b0, S_prune_ballot]
 have hf : l.foldl (goP_ballot v) [] = l.filter (keepBallot v) := by
  have := foldl_snoc_filter (fun x => keepBallot v x = true) l []
  simp only [List.nil_append, Bool.decide_eq_true] at this
  exact this
 rw [hf] at h0
 simp [S_prune_ballot, xf_tally_box_ballot_prune_k0] at h0
 rw [runFn_succ]
 simp [T, xf_tally_box_ballot_prune, xf_tally_box_ballot_prune_k0, h0]
theorem e_PruneBallots (v : List Draw) (l : List Ballot) (hl : l.length ≤ 1048577) (hb : ∀ x ∈ l, x.log.length ≤ 1048577) (hv : ∀ x ∈ l, 0 ≤ x.node ∧ x.node < v.length) (hn : 1048577 < n) :
  runFn T n (d + 3) 130 [.dat (encBals l), .dat (encV v)] [] = some (.dat (encBals (l.filter (keepBallot v))), []) := by
 have e1 := e_turned_Ballot_ballot (n := n) (d := d) l hl hn
 have e2 := e_prune_ballot (n := n) (d := d) v l hl hb hv hn
 have e3 := e_turned_ballot_Ballot (n := n) (d := d) (l.filter (keepBallot v)) (Nat.le_trans (List.length_filter_le _ _) hl) hn
 rw [runFn_succ]
 simp [T, xf_tally_PruneBallots, e1, e2, e3]
theorem e_answer_node (x : Answer) : runFn T n (d + 1) 211 [.dat (encAns x)] [] = some (.dat (di x.node), []) := by
 rw [runFn_succ]; simp [T, xf_tally_answer_node]
theorem e_answer_draw (x : Answer) : runFn T n (d + 1) 210 [.dat (encAns x)] [] = some (.dat (encD x.draw), []) := by
 rw [runFn_succ]; simp [T, xf_tally_answer_draw]
theorem e_answer_fresh (x : Answer) (hx : x.log.length ≤ 1048577) : runFn T n (d + 1) 174 [.dat (encAns x)] [] = some (.dat (encAns x), []) := by
 have hL : x.log.length ≤ LIM := by simp only [LIM]; omega
 rw [runFn_succ]; simp [T, xf_tally_answer_fresh, hL]
theorem e_toAnswer (x : Answer) : runFn T n (d + 1) 169 [.dat (encAns x)] [] = some (.dat (encAns x), []) := by
 rw [runFn_succ]; simp [T, xf_tally_toAnswer]
theorem e_fromAnswer (x : Answer) : runFn T n (d + 1) 171 [.dat (encAns x)] [] = some (.dat (encAns x), []) := by
 rw [runFn_succ]; simp [T, xf_tally_fromAnswer]
def S_turned_Answer_answer (l p : List Answer) : St := ⟨[(1, .fn (.func 169) [] []), (5, .own 0 0 p.length), (8, .dat (encAnss l)), (9, .dat (di l.length)), (10, .dat (di p.length))], [.arr 235 6 false false (p.map encAns)]⟩
theorem e_turned_Answer_answer (l : List Answer) (hl : l.length ≤ 1048577) (hn : 1048577 < n) : runFn T n (d + 2) 168 [.dat (encAnss l), .fn (.func 169) [] []] [] = some (.dat (encAnss l), []) := by
 have h0 : loopAt (XCode.run (runFn T n (d + 1)) n 0 xf_tally_turned_Answer_answer_b0) (headOf 0 xf_tally_turned_Answer_answer_k0) n (S_turned_Answer_answer l []) = some (.exit 0, ⟨[(5, .own 0 0 l.length)], [.arr 235 6 false false (l.map encAns)]⟩) := by
  refine loop_pre (S_turned_Answer_answer l) l (.exit 0, ⟨[(5, .own 0 0 l.length)], [.arr 235 6 false false (l.map encAns)]⟩) (fun p v r hl' => ?_) ?_ (fun s h => by simp at h) n (by omega)
  ·have hx : (p.length : Int) < p.length + (r.length + 1) := by omega
   have hp : p.length ≤ 1048577 := by have : l.length = p.length + (r.length + 1) := (by simp [hl']); omega
   have hw := wrap_i p.length (by omega)
   have hL : p.length + 1 ≤ LIM := by simp only [LIM]; omega
   have e1 := e_toAnswer (n := n) (d := d) v
   simp at hw
   simp [xf_tally_turned_Answer_answer_b0, xf_tally_turned_Answer_answer_k0, S_turned_Answer_answer, hl', hx, hw, hL, e1]
  ·simp [xf_tally_turned_Answer_answer_b0, S_turned_Answer_answer]
 simp [S_turned_Answer_answer, xf_tally_turned_Answer_answer_k0] at h0
 rw [runFn_succ]
 simp [T, xf_tally_turned_Answer_answer, xf_tally_turned_Answer_answer_k0, h0]
def S_turned_answer_Answer (l p : List Answer) : St := ⟨[(1, .fn (.func 171) [] []), (5, .own 0 0 p.length), (8, .dat (encAnss l)), (9, .dat (di l.length)), (10, .dat (di p.length))], [.arr 100 6 false false (p.map encAns)]⟩
theorem e_turned_answer_Answer (l : List Answer) (hl : l.length ≤ 1048577) (hn : 1048577 < n) : runFn T n (d + 2) 167 [.dat (encAnss l), .fn (.func 171) [] []] [] = some (.dat (encAnss l), []) := by
 have h0 : loopAt (XCode.run (runFn T n (d + 1)) n 0 xf_tally_turned_answer_Answer_b0) (headOf 0 xf_tally_turned_answer_Answer_k0) n (S_turned_answer_Answer l []) = some (.exit 0, ⟨[(5, .own 0 0 l.length)], [.arr 100 6 false false (l.map encAns)]⟩) := by
  refine loop_pre (S_turned_answer_Answer l) l (.exit 0, ⟨[(5, .own 0 0 l.length)], [.arr 100 6 false false (l.map encAns)]⟩) (fun p v r hl' => ?_) ?_ (fun s h => by simp at h) n (by omega)
  ·have hx : (p.length : Int) < p.length + (r.length + 1) := by omega
   have hp : p.length ≤ 1048577 := by have : l.length = p.length + (r.length + 1) := (by simp [hl']); omega
   have hw := wrap_i p.length (by omega)
   have hL : p.length + 1 ≤ LIM := by simp only [LIM]; omega
   have e1 := e_fromAnswer (n := n) (d := d) v
   simp at hw
   simp [xf_tally_turned_answer_Answer_b0, xf_tally_turned_answer_Answer_k0, S_turned_answer_Answer, hl', hx, hw, hL, e1]
  ·simp [xf_tally_turned_answer_Answer_b0, S_turned_answer_Answer]
 simp [S_turned_answer_Answer, xf_tally_turned_answer_Answer_k0] at h0
 rw [runFn_succ]
 simp [T, xf_tally_turned_answer_Answer, xf_tally_turned_answer_Answer_k0, h0]
def keepAnswer (v : List Draw) (x : Answer) : Bool := lives v x.node x.draw
def goP_answer (v : List Draw) (a : List Answer) (x : Answer) : List Answer := if keepAnswer v x = true then a ++ [x] else a
def S_prune_answer (v : List Draw) (l : List Answer) (i : Nat) (a : List Answer) : St := ⟨[(1, .dat (encV v)), (5, .own 0 0 a.length), (10, .dat (encAnss l)), (11, .dat (di l.length)), (12, .dat (di i))], [.arr 235 6 false false (a.map encAns)]⟩
theorem e_prune_answer (v : List Draw) (l : List Answer) (hl : l.length ≤ 1048577) (hb : ∀ x ∈ l, x.log.length ≤ 1048577) (hv : ∀ x ∈ l, 0 ≤ x.node ∧ x.node < v.length) (hn : 1048577 < n) :
  runFn T n (d + 2) 170 [.dat (.agg [encAnss l]), .dat (encV v)] [] = some (.dat (encAnss (l.filter (keepAnswer v))), []) := by
 have h0 : loopAt (XCode.run (runFn T n (d + 1)) n 0 xf_tally_box_answer_prune_b0) (headOf 0 xf_tally_box_answer_prune_k0) n (S_prune_answer v l 0 []) = some ((fun a => (.exit 0, ⟨[(5, .own 0 0 a.length)], [.arr 235 6 false false (a.map encAns)]⟩)) (l.foldl (goP_answer v) [])) := by
  refine loop_fold (S_prune_answer v l) (fun i a => a.length ≤ i) l (goP_answer v) (fun a => (.exit 0, ⟨[(5, .own 0 0 a.length)], [.arr 235 6 false false (a.map encAns)]⟩)) [] (by simp) (fun i a hi hI => ?_) (fun a _ => ?_) (fun a s h => by simp at h) n (by omega)
  ·have hI : a.length ≤ i := hI
   have hi' : (i : Int) < l.length := by omega
   have hw := wrap_i i (by omega)
   have hL : a.length + 1 ≤ LIM := by simp only [LIM]; omega
   obtain ⟨v1, v2⟩ := hv l[i] (List.getElem_mem hi)
   have v3 : ¬ l[i].node < 0 := by omega
   have v4 : ¬ (v.length : Int) ≤ l[i].node := by omega
   have v5 : l[i].node.toNat < v.length := by omega
   have e1 := e_answer_node (n := n) (d := d) l[i]
   have e2 := e_answer_draw (n := n) (d := d) l[i]
   have e3 := e_answer_fresh (n := n) (d := d) l[i] (hb _ (List.getElem_mem hi))
   have e4 := p43 (n := n) (d := d) l[i].draw v[l[i].node.toNat]
   have g : v.getD l[i].node.toNat ⟨0, 0⟩ = v[l[i].node.toNat] := by simp [List.getD, v5]
   refine ⟨by unfold goP_answer; split <;> (try simp) <;> omega, nextK_some ?_⟩
   unfold goP_answer keepAnswer lives
   rw [g]
   by_cases hq : 0 ≤ cmp l[i].draw v[l[i].node.toNat]
   ·simp [xf_tally_box_answer_prune_b0, xf_tally_box_answer_prune_k0, S_prune_answer, hi, hi', hw, hL, v1, v2, v3, v4, v5, e1, e2, e3, e4, hq]
   ·simp [xf_tally_box_answer_prune_b0, xf_tally_box_answer_prune_k0, S_prune_answer, hi, hi', hw, hL, v1, v2, v3, v4, v5, e1, e2, e3, e4, hq]
  ·simp [xf_tally_box_answer_prune_b0, S_prune_answer]
 have hf : l.foldl (goP_answer v) [] = l.filter (keepAnswer v) := by
  have := foldl_snoc_filter (fun x => keepAnswer v x = true) l []
  simp only [List.nil_append, Bool.decide_eq_true] at this
  exact this
 rw [hf] at h0
 simp [S_prune_answer, xf_tally_box_answer_prune_k0] at h0
 rw [runFn_succ]
 simp [T, xf_tally_box_answer_prune, xf_tally_box_answer_prune_k0, h0]
theorem e_PruneAnswers (v : List Draw) (l : List Answer) (hl : l.length ≤ 1048577) (hb : ∀ x ∈ l, x.log.length ≤ 1048577) (hv : ∀ x ∈ l, 0 ≤ x.node ∧ x.node < v.length) (hn : 1048577 < n) :
  runFn T n (d + 3) 131 [.dat (encAnss l), .dat (encV v)] [] = some (.dat (encAnss (l.filter (keepAnswer v))), []) := by
 have e1 := e_turned_Answer_answer (n := n) (d := d) l hl hn
 have e2 := e_prune_answer (n := n) (d := d) v l hl hb hv hn
 have e3 := e_turned_answer_Answer (n := n) (d := d) (l.filter (keepAnswer v)) (Nat.le_trans (List.length_filter_le _ _) hl) hn
 rw [runFn_succ]
 simp [T, xf_tally_PruneAnswers, e1, e2, e3]
end Go.Ax
namespace Go.Ax
set_option linter.all false
variable {n d : Nat}
set_option maxRecDepth 10000
set_option maxHeartbeats 4000000
def Nn (x : Draw) : Prop := 0 ≤ x.hi ∧ 0 ≤ x.lo
theorem mxd_zero {x : Draw} (h : Nn x) : mxd ⟨0, 0⟩ x = x := by
 cases x with
 | mk a b =>
  obtain ⟨h1, h2⟩ := h
  simp only at h1 h2
  unfold mxd cmp
  by_cases h0 : (⟨0, 0⟩ : Draw) = ⟨a, b⟩
  ·rw [if_pos h0]; simp only [Int.lt_irrefl, if_false]; exact h0
  ·rw [if_neg h0]
   have : (0 : Int) < a ∨ ((0 : Int) = a ∧ (0 : Int) < b) := by
    by_cases ha : a = 0
    ·have hb : b ≠ 0 := fun e => h0 (by rw [ha, e])
     exact .inr ⟨ha.symm, by omega⟩
    ·exact .inl (by omega)
   rw [if_pos this]; rfl
theorem mxv_zeros : ∀ (v : List Draw), (∀ x ∈ v, Nn x) → mxv (List.replicate v.length ⟨0, 0⟩) v = v
 | [], _ => rfl
 | x :: r, h => by
  have := mxv_zeros r (fun y hy => h y (by simp [hy]))
  simp only [mxv, List.length_cons, List.replicate_succ, List.zipWith_cons_cons] at this ⊢
  rw [mxd_zero (h x (by simp)), this]
theorem mergeR_two (a b : List Draw) (h : 1 ≤ a.length ∧ a.length ≤ 7) (hb : b.length = a.length) (hn : ∀ x ∈ a, Nn x) : mergeR [a, b] = mxv a b ∧ mergeE [a, b] = 0 := by
 have hbad : ¬ badl [a, b] := by
  unfold badl badv
  simp
  omega
 unfold mergeR mergeE
 rw [if_neg hbad, if_neg hbad]
 refine ⟨?_, rfl⟩
 unfold merged
 simp only [List.headD_cons, List.foldl_cons, List.foldl_nil, mxv_zeros a hn]
theorem first_nodes (s : State) : ∀ (l : List Mark) (a : Int), -1 ≤ a → firstBad s a l = none → ∀ m ∈ l, 0 ≤ m.node ∧ m.node < s.vector.length
 | [], _, _, _, m, hm => by cases hm
 | x :: r, a, ha, h, m, hm => by
  simp only [firstBad] at h
  by_cases hb : badV s a x = true
  ·rw [if_pos hb] at h; cases h
  ·rw [if_neg hb] at h
   have hx : a < x.node ∧ x.node < s.vector.length := by
    simp [badV] at hb
    omega
   rcases List.mem_cons.1 hm with rfl | hm
   ·omega
   ·exact first_nodes s r x.node (by omega) h m hm
structure Nodes (s : State) : Prop where
 acks : ∀ x ∈ s.acks, 0 ≤ x.node ∧ x.node < s.vector.length
 marks : ∀ x ∈ s.marks, 0 ≤ x.node ∧ x.node < s.vector.length
 ballots : ∀ x ∈ s.ballots, 0 ≤ x.node ∧ x.node < s.vector.length
 answers : ∀ x ∈ s.answers, 0 ≤ x.node ∧ x.node < s.vector.length
theorem nodes_ok {c : Cfg} {s : State} (h : stateErr c s = 0) : Nodes s ∧ (s.vector.length : Int) = NN c ∧ 0 ≤ s.self ∧ s.self < NN c ∧ cfgOk c := by
 obtain ⟨hc, hh, _⟩ := ok_of_err h
 have hv : votedOk s = true := by
  unfold stateErr at h
  rw [if_pos hc] at h
  cases hr : stateOk c s
  ·rw [hr] at h; simp at h
  ·unfold stateOk at hr
   simp at hr
   exact hr.1.2
 have hn : nodesOf c = NN c := by unfold nodesOf; rw [if_pos hc]
 have hl : (s.vector.length : Int) = NN c ∧ 0 ≤ s.self ∧ s.self < NN c := by
  unfold headOff at hh
  rw [hn] at hh
  simp at hh
  omega
 refine ⟨?_, hl.1, hl.2.1, hl.2.2, hc⟩
 simp only [votedOk, mkList, List.all_cons, List.all_nil, Bool.and_true, Bool.and_eq_true, Option.isNone_iff_eq_none] at hv
 obtain ⟨q1, q2, q3, q4⟩ := hv
 have k := fun l hl => first_nodes s l (-1) (by omega) hl
 refine ⟨fun x hx => ?_, fun x hx => k _ q2 x hx, fun x hx => ?_, fun x hx => ?_⟩
 ·exact k _ q1 (ackM x) (List.mem_map.2 ⟨x, hx, rfl⟩)
 ·exact k _ q3 (balM x) (List.mem_map.2 ⟨x, hx, rfl⟩)
 ·exact k _ q4 (ansM x) (List.mem_map.2 ⟨x, hx, rfl⟩)
theorem msg_ok {c : Cfg} {m : Msg} (h : msgErr c m = 0) (hb : between m.kind = true) : (m.vector.length : Int) = NN c ∧ 0 ≤ m.node ∧ m.node < NN c := by
 unfold msgErr at h
 split at h
 ·split at h
  ·rename_i hk
   cases hm : msgOk c m
   ·rw [hm] at h; cases h
   ·unfold msgOk at hm
    simp only [Bool.and_eq_true] at hm
    have hu : ub m.kind 9 = true := by
     have hk2 : 3 ≤ m.kind ∧ m.kind ≤ 12 := by simpa [between] using hb
     have : m.kind = 3 ∨ m.kind = 4 ∨ m.kind = 5 ∨ m.kind = 6 ∨ m.kind = 7 ∨ m.kind = 8 ∨ m.kind = 9 ∨ m.kind = 10 ∨ m.kind = 11 ∨ m.kind = 12 := by omega
     rcases this with e | e | e | e | e | e | e | e | e | e <;> rw [e] <;> decide
    have hr := hm.2.2
    unfold restOk at hr
    rw [hu] at hr
    simp at hr
    exact ⟨hr.2.2.1, nums_node hm.2.1⟩
  ·cases h
 ·cases h
def admErr (c : Cfg) (s : State) (m : Msg) : Int := if stateErr c s ≠ 0 then stateErr c s else msgErr c m
def overB (s : State) (m : Msg) : Bool := decide (0 < cmp (s.vector.getD m.node.toNat ⟨0, 0⟩) (m.vector.getD m.node.toNat ⟨0, 0⟩))
def aheadB (s : State) (m : Msg) : Bool := decide (0 < cmp (m.vector.getD s.self.toNat ⟨0, 0⟩) (s.vector.getD s.self.toNat ⟨0, 0⟩))
def struck (s : State) (v : List Draw) : State := { s with vector := v, acks := s.acks.filter (keepAck v), marks := s.marks.filter (keepMark v), ballots := s.ballots.filter (keepBallot v), answers := s.answers.filter (keepAnswer v) }
def admS (c : Cfg) (s : State) (m : Msg) : State := if admErr c s m ≠ 0 then zeroS else if between m.kind = false then s else if m.node = s.self then s else if c.unguarded = true then s else if overB s m = true then s else if aheadB s m = true then s else struck s (mxv s.vector m.vector)
def admB (c : Cfg) (s : State) (m : Msg) : Bool := if admErr c s m ≠ 0 then false else if between m.kind = false then true else if m.node = s.self then false else if c.unguarded = true then true else if overB s m = true then false else if aheadB s m = true then false else true
end Go.Ax
