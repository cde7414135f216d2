/-
  The plain functions of this seat, evaluated.
-/
import Derived.Test.YtbkbnhpadkkcaaaXTab
import Derived.Test.YtbkbnhpadkkcaaaXLoop
namespace Go.Ax

structure Draw where
  hi : Int
  lo : Int
  deriving DecidableEq
abbrev encD (d : Draw) : Dat := .agg [.int .u64 d.hi, .int .u64 d.lo]
abbrev encV (l : List Draw) : Dat := .sl 2 true (l.map encD)

variable {n d : Nat}
set_option maxRecDepth 10000

theorem p37 (xs : List Dat) (hl : xs.length ≤ LIM) : runFn T n (d + 1) 37 [.dat (.sl 2 true xs)] [] = some (.own 0 0 xs.length, [.arr 26 2 true false xs]) := by
  rw [runFn_succ]
  simp [T, xf_plain_CopyVector, hl]

abbrev seal1 : Dat := .agg [.int .u64 77, .int .u64 88]
abbrev noG : List AV := [.nil 88 1 false, .nil 88 1 false, .nil 23 1 false, .nil 23 1 false, .nil 91 1 false, .nil 91 1 false, .nil 62 1 false, .nil 62 1 false, .nil 97 12 false, .nil 97 12 false]
abbrev G1 (a b : Nat) (k : Nat) : List AV := [.nil 88 1 false, .nil 88 1 false, .own a 0 k, .own b 0 k, .nil 91 1 false, .nil 91 1 false, .nil 62 1 false, .nil 62 1 false, .nil 97 12 false, .nil 97 12 false]

theorem p10 (l : List Draw) (hl : l.length ≤ 1048576) : runFn T n (d + 2) 10 [.ptr 0 0, .dat (encV l)] [.box noG] =
    some (.own 1 0 l.length, [.box (G1 2 3 1), .arr 26 2 true true (l.map encD ++ [seal1]), .arr 23 1 false false [.sl 2 true (l.map encD ++ [seal1])], .arr 23 1 false false [.sl 2 true (l.map encD ++ [seal1])]]) := by
  have h1 : l.length ≤ LIM := by simp only [LIM]; omega
  have h2 : l.length + 1 ≤ LIM := by simp only [LIM]; omega
  have h3 : (l.length : Int) ≤ (l.length : Int) + 1 := by omega
  have hp := p37 (n := n) (d := d)
  have ht : (List.map encD l ++ [Dat.agg [Dat.int IntKind.u64 77, Dat.int IntKind.u64 88]]).take (l.length + 1) = List.map encD l ++ [Dat.agg [Dat.int IntKind.u64 77, Dat.int IntKind.u64 88]] := List.take_of_length_le (by simp)
  rw [runFn_succ]
  simp [T, xf_plain_Given_Vector, hp, h1, h2, h3, ht]

theorem p10s (A B : List Dat) (hA : A.length = B.length) (h0 : 0 < A.length) (hB : A.length ≤ 1999999) (l : List Draw) (hl : l.length ≤ 1048576) : runFn T n (d + 2) 10 [.ptr 0 0, .dat (encV l)] [.box (G1 1 2 A.length), .arr 23 1 false false A, .arr 23 1 false false B] =
    some (.own 3 0 l.length, [.box (G1 4 5 (A.length + 1)), .dead, .dead, .arr 26 2 true true (l.map encD ++ [seal1]), .arr 23 1 false false (A ++ [.sl 2 true (l.map encD ++ [seal1])]), .arr 23 1 false false (B ++ [.sl 2 true (l.map encD ++ [seal1])])]) := by
  have h1 : l.length ≤ LIM := by simp only [LIM]; omega
  have h2 : l.length + 1 ≤ LIM := by simp only [LIM]; omega
  have h5 : B.length + 1 ≤ LIM := by simp only [LIM]; omega
  have h3 : (l.length : Int) ≤ (l.length : Int) + 1 := by omega
  have hp := p37 (n := n) (d := d)
  have ht : (List.map encD l ++ [Dat.agg [Dat.int IntKind.u64 77, Dat.int IntKind.u64 88]]).take (l.length + 1) = List.map encD l ++ [Dat.agg [Dat.int IntKind.u64 77, Dat.int IntKind.u64 88]] := List.take_of_length_le (by simp)
  rw [runFn_succ]
  simp [T, xf_plain_Given_Vector, hp, h1, h2, h3, h5, ht, hA]

theorem p38 (l : List Draw) : runFn T n (d + 1) 38 [.dat (encV l)] [] = some (.dat (.bool (decide (1 ≤ l.length ∧ l.length ≤ 7))), []) := by
  rw [runFn_succ]
  by_cases h1 : 1 ≤ l.length
  · have h2 : (1 : Int) ≤ l.length := by omega
    by_cases h3 : l.length ≤ 7
    · have h4 : (l.length : Int) ≤ 7 := by omega
      simp [T, xf_vector_fits, h1, h2, h3, h4]
    · have h4 : ¬ (l.length : Int) ≤ 7 := by omega
      simp [T, xf_vector_fits, h1, h2, h3, h4]
  · have h2 : ¬ (1 : Int) ≤ l.length := by omega
    simp [T, xf_vector_fits, h1, h2]
theorem p39 (l : List Draw) : runFn T n (d + 1) 39 [.dat (encV l)] [] = some (.dat (.bool (decide (1 ≤ l.length ∧ l.length ≤ 7))), []) := by
  rw [runFn_succ]
  by_cases h1 : 1 ≤ l.length
  · have h2 : (1 : Int) ≤ l.length := by omega
    by_cases h3 : l.length ≤ 7
    · have h4 : (l.length : Int) ≤ 7 := by omega
      simp [T, xf_ref03_may, h1, h2, h3, h4]
    · have h4 : ¬ (l.length : Int) ≤ 7 := by omega
      simp [T, xf_ref03_may, h1, h2, h3, h4]
  · have h2 : ¬ (1 : Int) ≤ l.length := by omega
    simp [T, xf_ref03_may, h1, h2]

theorem p15 (k : Int) : runFn T n (d + 1) 15 [.dat (.int .i64 k)] [] = some (.dat (.int .i64 k), []) := by
  rw [runFn_succ]
  simp [T, xf_law03_num]

/-- SameVector. -/
def S16 (a b : List Draw) (i : Nat) : St := ⟨[(0, .dat (encV a)), (1, .dat (encV b)), (5, .dat (.int .i64 i))], []⟩

theorem same_loop (cf : CallF) (n : Nat) (a b : List Draw) (hl : a.length = b.length) (hlim : a.length ≤ 2^32) : ∀ (k m i : Nat), i + k = a.length → k < m →
    loopAt (XCode.run cf n 0 xf_plain_SameVector_b0) (headOf 0 xf_plain_SameVector_k0) m (S16 a b i) = some (if a.drop i = b.drop i then (.exit 0, ⟨[], []⟩) else (.ret, ⟨[(4, .dat (.bool false))], []⟩))
  | 0, m + 1, i, h, hm => by
    have hi : ¬ ((i : Int) < a.length) := by omega
    have e1 : a.drop i = [] := List.drop_eq_nil_iff.2 (by omega)
    have e2 : b.drop i = [] := List.drop_eq_nil_iff.2 (by omega)
    rw [e1, e2, if_pos rfl]
    apply loop_exit
    simp [xf_plain_SameVector_b0, S16, hi]
  | k + 1, m + 1, i, h, hm => by
    have hi : ((i : Int) < a.length) := by omega
    have hia : i < a.length := by omega
    have hib : i < b.length := by omega
    have e1 : a.drop i = a[i] :: a.drop (i+1) := List.drop_eq_getElem_cons hia
    have e2 : b.drop i = b[i] :: b.drop (i+1) := List.drop_eq_getElem_cons hib
    have hw := wrap_i i (by omega)
    by_cases hd : a[i] = b[i]
    · have hd1 : a[i].hi = b[i].hi := by rw [hd]
      have hd2 : a[i].lo = b[i].lo := by rw [hd]
      rw [e1, e2, ← hd]
      simp only [List.cons.injEq, true_and]
      rw [← same_loop cf n a b hl hlim k m (i + 1) (by omega) (by omega)]
      refine loop_step (s2 := S16 a b (i + 1)) ?_ ?_
      · simp [xf_plain_SameVector_b0, S16, hi, hia, hib, hd1, hd2, hw]
      · simp [xf_plain_SameVector_k0, S16]
    · have hne : a[i].hi = b[i].hi → ¬ a[i].lo = b[i].lo := fun h1 h2 => hd (by cases ha : a[i]; cases hb : b[i]; simp_all)
      rw [e1, e2, if_neg (fun h => hd (List.cons.inj h).1)]
      apply loop_ret
      by_cases h1 : a[i].hi = b[i].hi
      · have h2 := hne h1
        simp [xf_plain_SameVector_b0, S16, hi, hia, hib, h1, h2]
      · simp [xf_plain_SameVector_b0, S16, hi, hia, hib, h1]

theorem p16 (a b : List Draw) (ha : a.length ≤ 1999999) (hn : 1999999 < n) : runFn T n (d + 1) 16 [.dat (encV a), .dat (encV b)] [] = some (.dat (.bool (decide (a = b))), []) := by
  rw [runFn_succ]
  by_cases hl : a.length = b.length
  · have h0 := same_loop (runFn T n d) n a b hl (by omega) a.length n 0 (by omega) (by omega)
    simp [S16, xf_plain_SameVector_k0] at h0
    have hl' : (a.length : Int) = b.length := by omega
    by_cases hab : a = b
    · subst hab
      simp at h0
      simp [T, xf_plain_SameVector, xf_plain_SameVector_k0, h0]
    · simp [hab] at h0
      simp [T, xf_plain_SameVector, xf_plain_SameVector_k0, h0, hab, hl']
  · have hab : ¬ a = b := fun h => hl (by rw [h])
    have hl' : ¬ (a.length : Int) = b.length := by omega
    simp [T, xf_plain_SameVector, hl', hab]
end Go.Ax
