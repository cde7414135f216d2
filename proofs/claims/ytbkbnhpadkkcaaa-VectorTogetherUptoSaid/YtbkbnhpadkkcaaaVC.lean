/-
  How draws and vectors compare, evaluated.
-/
import Derived.Test.YtbkbnhpadkkcaaaVQ
namespace Go.Ax
variable {n d : Nat}
set_option maxRecDepth 10000

/-- How two draws stand. -/
def cmp (x y : Draw) : Int := if x = y then 0 else if x.hi < y.hi ∨ (x.hi = y.hi ∧ x.lo < y.lo) then -1 else 1

theorem cmp_cases (x y : Draw) : cmp x y = 0 ∨ cmp x y = 1 ∨ cmp x y = -1 := by
  unfold cmp; split
  · exact .inl rfl
  · split
    · exact .inr (.inr rfl)
    · exact .inr (.inl rfl)
theorem cmp_neg (x y : Draw) : cmp y x = - cmp x y := by
  cases x with
  | mk a b => cases y with
    | mk c e =>
      simp only [cmp, Draw.mk.injEq]
      by_cases h1 : a = c <;> by_cases h2 : b = e <;> by_cases h3 : a < c <;> by_cases h4 : b < e <;> simp_all <;> omega

theorem p43 (x y : Draw) : runFn T n (d + 1) 43 [.dat (encD x), .dat (encD y)] [] = some (.dat (.int .i64 (cmp x y)), []) := by
  rw [runFn_succ]
  unfold cmp
  by_cases h0 : x = y
  · subst h0
    simp [T, xf_nonce_Compare]
  · by_cases h1 : x.hi < y.hi
    · have h2 : ¬ x.hi = y.hi := by omega
      simp [T, xf_nonce_Compare, h0, h1, h2]
    · by_cases h2 : x.hi = y.hi
      · have h3 : ¬ x.lo = y.lo := fun h3 => h0 (by cases x; cases y; simp_all)
        by_cases h4 : x.lo < y.lo
        · simp [T, xf_nonce_Compare, h0, h2, h3, h4]
        · simp [T, xf_nonce_Compare, h0, h2, h3, h4]
      · simp [T, xf_nonce_Compare, h0, h1, h2]
theorem p64 (x y : Draw) : runFn T n (d + 1) 64 [.dat (encD x), .dat (encD y)] [] = some (.dat (.int .i64 (cmp x y)), []) := by
  rw [runFn_succ]
  unfold cmp
  by_cases h0 : x = y
  · subst h0
    simp [T, xf_ref02_Compare]
  · by_cases h1 : x.hi < y.hi
    · have h2 : ¬ x.hi = y.hi := by omega
      simp [T, xf_ref02_Compare, h0, h1, h2]
    · by_cases h2 : x.hi = y.hi
      · have h3 : ¬ x.lo = y.lo := fun h3 => h0 (by cases x; cases y; simp_all)
        by_cases h4 : x.lo < y.lo
        · simp [T, xf_ref02_Compare, h0, h2, h4]
        · have h5 : y.lo < x.lo := by omega
          simp [T, xf_ref02_Compare, h0, h2, h4, h5]
      · simp [T, xf_ref02_Compare, h0, h1, h2]
theorem p44 (x y : Draw) : runFn T n (d + 2) 44 [.dat (encD x), .dat (encD y)] [] = some (.dat (.bool (decide (cmp x y < 0))), []) := by
  have h := p64 (n := n) (d := d) x y
  rw [runFn_succ]
  simp [T, xf_ref03_below, h]

def upTo (a b : List Draw) (v : Int) (i : Nat) : Bool := ((List.zipWith cmp a b).take i).any (fun c => decide (c = v))
/-- The relation of two vectors. -/
def rel (a b : List Draw) : Int :=
  if a.length = b.length then (match upTo a b 1 a.length, upTo a b (-1) a.length with
    | true, true => 4
    | true, false => 3
    | false, true => 2
    | false, false => 1)
  else 0

theorem upTo_zero (a b : List Draw) (v : Int) : upTo a b v 0 = false := rfl
theorem upTo_succ {a b : List Draw} (hl : a.length = b.length) {v : Int} {i : Nat} (hi : i < a.length) (hb : i < b.length) : upTo a b v (i + 1) = (upTo a b v i || decide (cmp a[i] b[i] = v)) := by
  unfold upTo
  have : i < (List.zipWith cmp a b).length := by simp; omega
  rw [List.take_succ_eq_append_getElem this, List.any_append]
  simp
theorem upTo_all {a b : List Draw} (hl : a.length = b.length) {v : Int} : upTo a b v a.length = (List.zipWith cmp a b).any (fun c => decide (c = v)) := by
  unfold upTo
  rw [List.take_of_length_le (by simp; omega)]

def S22 (a b : List Draw) (i : Nat) : St := ⟨[(0, .dat (encV a)), (1, .dat (encV b)), (5, .dat (.bool (upTo a b 1 i))), (6, .dat (.bool (upTo a b (-1) i))), (14, .dat (.int .i64 a.length)), (15, .dat (.int .i64 i))], []⟩

theorem loop22 (a b : List Draw) (hl : a.length = b.length) (ha : a.length ≤ 1999999) (hn : 1999999 < n) :
    loopAt (XCode.run (runFn T n (d + 1)) n 0 xf_vector_Compare_b0) (headOf 0 xf_vector_Compare_k0) n (S22 a b 0) = some (.exit 0, ⟨[(5, .dat (.bool (upTo a b 1 a.length))), (6, .dat (.bool (upTo a b (-1) a.length)))], []⟩) := by
  refine loop_for (S22 a b) a.length _ (fun i hi => ?_) ?_ (fun s h => by cases h) n (by omega)
  · have hib : i < b.length := by omega
    have hi' : (i : Int) < a.length := by omega
    have hw := wrap_i i (by omega)
    have h43 := p43 (n := n) (d := d) a[i] b[i]
    refine ⟨S22 a b (i + 1), ?_, by simp [xf_vector_Compare_k0, S22]⟩
    have u1 := upTo_succ (v := 1) hl hi hib
    have u2 := upTo_succ (v := -1) hl hi hib
    rcases cmp_cases a[i] b[i] with hc | hc | hc
    · simp [xf_vector_Compare_b0, S22, hi', hi, hib, hw, h43, hc, u1, u2]
    · simp [xf_vector_Compare_b0, S22, hi', hi, hib, hw, h43, hc, u1, u2]
    · simp [xf_vector_Compare_b0, S22, hi', hi, hib, hw, h43, hc, u1, u2]
  · simp [xf_vector_Compare_b0, S22]

theorem p22 (a b : List Draw) (ha : a.length ≤ 1999999) (hn : 1999999 < n) : runFn T n (d + 2) 22 [.dat (encV a), .dat (encV b)] [] = some (.dat (.int .i64 (rel a b)), []) := by
  rw [runFn_succ]
  by_cases hl : a.length = b.length
  · have h0 := loop22 (d := d) a b hl ha hn
    have hl' : (b.length : Int) = a.length := by omega
    simp [S22, xf_vector_Compare_k0, upTo_zero] at h0
    unfold rel
    rw [if_pos hl]
    cases h1 : upTo a b 1 a.length <;> cases h2 : upTo a b (-1) a.length <;> simp [h1, h2] at h0
    · simp [T, xf_vector_Compare, xf_vector_Compare_k0, hl', h0]
    · simp [T, xf_vector_Compare, xf_vector_Compare_k0, hl', h0]
    · simp [T, xf_vector_Compare, xf_vector_Compare_k0, hl', h0]
    · simp [T, xf_vector_Compare, xf_vector_Compare_k0, hl', h0]
  · have hl' : ¬ (a.length : Int) = b.length := by omega
    simp [T, xf_vector_Compare, hl', rel, hl]

def S23 (a b : List Draw) (i : Nat) : St := ⟨[(0, .dat (encV a)), (1, .dat (encV b)), (5, .dat (.bool (upTo a b (-1) i))), (6, .dat (.bool (upTo a b 1 i))), (7, .dat (.int .i64 i))], []⟩

theorem loop23 (a b : List Draw) (hl : a.length = b.length) (ha : a.length ≤ 1999999) (hn : 1999999 < n) :
    loopAt (XCode.run (runFn T n (d + 2)) n 0 xf_ref03_Compare_b0) (headOf 0 xf_ref03_Compare_k0) n (S23 a b 0) = some (.exit 0, ⟨[(5, .dat (.bool (upTo a b (-1) a.length))), (6, .dat (.bool (upTo a b 1 a.length)))], []⟩) := by
  refine loop_for (S23 a b) a.length _ (fun i hi => ?_) ?_ (fun s h => by cases h) n (by omega)
  · have hib : i < b.length := by omega
    have hi' : (i : Int) < a.length := by omega
    have hw := wrap_i i (by omega)
    have h44 := p44 (n := n) (d := d) a[i] b[i]
    have h44' := p44 (n := n) (d := d) b[i] a[i]
    have hc' := cmp_neg a[i] b[i]
    refine ⟨S23 a b (i + 1), ?_, by simp [xf_ref03_Compare_k0, S23]⟩
    have u1 := upTo_succ (v := 1) hl hi hib
    have u2 := upTo_succ (v := -1) hl hi hib
    rcases cmp_cases a[i] b[i] with hc | hc | hc <;> rw [hc] at hc' <;> simp [hc] at h44 <;> simp [hc'] at h44' <;> cases v1 : upTo a b 1 i <;> cases v2 : upTo a b (-1) i <;>
      simp [xf_ref03_Compare_b0, S23, hi', hi, hib, hw, h44, h44', hc, u1, u2, v1, v2]
  · simp [xf_ref03_Compare_b0, S23]

theorem p23 (a b : List Draw) (ha : a.length ≤ 1999999) (hn : 1999999 < n) : runFn T n (d + 3) 23 [.dat (encV a), .dat (encV b)] [] = some (.dat (.int .i64 (rel a b)), []) := by
  rw [runFn_succ]
  by_cases hl : a.length = b.length
  · have h0 := loop23 (d := d) a b hl ha hn
    have hl' : (b.length : Int) = a.length := by omega
    simp [S23, xf_ref03_Compare_k0, upTo_zero] at h0
    unfold rel
    rw [if_pos hl]
    cases h1 : upTo a b 1 a.length <;> cases h2 : upTo a b (-1) a.length <;> simp [h1, h2] at h0
    · simp [T, xf_ref03_Compare, xf_ref03_Compare_k0, hl', h0]
    · simp [T, xf_ref03_Compare, xf_ref03_Compare_k0, hl', h0]
    · simp [T, xf_ref03_Compare, xf_ref03_Compare_k0, hl', h0]
    · simp [T, xf_ref03_Compare, xf_ref03_Compare_k0, hl', h0]
  · have hl' : ¬ (a.length : Int) = b.length := by omega
    simp [T, xf_ref03_Compare, hl', rel, hl]

end Go.Ax
