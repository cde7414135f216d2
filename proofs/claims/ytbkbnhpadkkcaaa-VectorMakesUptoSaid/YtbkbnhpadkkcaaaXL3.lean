/-
  VectorMakes, evaluated.
-/
import Derived.Test.YtbkbnhpadkkcaaaXQ
namespace Go.Ax
variable {n d : Nat}
set_option maxRecDepth 10000

theorem law3 (l : List Draw) (hl : l.length ≤ 1048576) (k j : Int) (x : Draw) (hn : 1048577 < n) : ∃ H, runFn T n (d + 4) 3 [.dat (encV l), .dat (.int .i64 k), .dat (.int .i64 j), .dat (encD x)] [] = some (.dat (.bool true), H) := by
  have hp := p10 (n := n) (d := d + 1) l hl
  have h11 := p11 (n := n) (d := d + 2) k
  have h12 := p12 (n := n) (d := d + 2) k
  have h13 := p13 (n := n) (d := d + 1) l hl j x
  have h14 := p14 (n := n) (d := d + 1) l hl j x
  have h15 := p15 (n := n) (d := d + 2)
  have h17 := p17 (n := n) (d := d + 2) l k
  have h18 := p18 (n := n) (d := d + 2) l k
  have h16 := p16 (n := n) (d := d + 2) [] [] (by simp) hn
  have h16s := p16 (n := n) (d := d + 2) (l.set j.toNat x) (l.set j.toNat x) (by simp; omega) hn
  have h19 := p19one (n := n) (d := d + 1) l hl hn
  simp [encV] at h16
  simp [encV] at h16s
  have ht : (l.map encD ++ [Dat.agg [Dat.int IntKind.u64 77, Dat.int IntKind.u64 88]]).take l.length = l.map encD := by
    rw [List.take_append_of_le_length (by simp), List.take_of_length_le (by simp)]
  have hts : ((l.map encD).set j.toNat (encD x)).take l.length = (l.map encD).set j.toNat (encD x) := List.take_of_length_le (by simp)
  by_cases hk : k < 1 ∨ 7 < k
  · rw [if_pos hk] at h11 h12
    by_cases h2 : 1 ≤ l.length ∧ l.length ≤ 7
    · rw [if_neg (fun h => h h2)] at h13 h14
      by_cases h3 : j < 0 ∨ (l.length : Int) ≤ j
      · rw [if_pos h3] at h13 h14
        rw [runFn]
        simp [T, xf3, hp, ht, h11, h12, h13, h14, h15, h16, h17, h18, h19]
      · rw [if_neg h3] at h13 h14
        rw [runFn]
        simp [T, xf3, hp, ht, h11, h12, h13, h14, h15, h16, h16s, hts, h17, h18, h19]
    · rw [if_pos h2] at h13 h14
      rw [runFn]
      simp [T, xf3, hp, ht, h11, h12, h13, h14, h15, h16, h17, h18, h19]
  · rw [if_neg hk] at h11 h12
    have h16k := p16 (n := n) (d := d + 2) (List.replicate k.toNat ⟨0, 0⟩) (List.replicate k.toNat ⟨0, 0⟩) (by simp; omega) hn
    simp [encV] at h16k
    by_cases h2 : 1 ≤ l.length ∧ l.length ≤ 7
    · rw [if_neg (fun h => h h2)] at h13 h14
      by_cases h3 : j < 0 ∨ (l.length : Int) ≤ j
      · rw [if_pos h3] at h13 h14
        rw [runFn]
        simp [T, xf3, hp, ht, h11, h12, h13, h14, h15, h16, h16k, h17, h18, h19]
      · rw [if_neg h3] at h13 h14
        rw [runFn]
        simp [T, xf3, hp, ht, h11, h12, h13, h14, h15, h16k, h16s, hts, h17, h18, h19]
    · rw [if_pos h2] at h13 h14
      rw [runFn]
      simp [T, xf3, hp, ht, h11, h12, h13, h14, h15, h16, h16k, h17, h18, h19]

end Go.Ax
