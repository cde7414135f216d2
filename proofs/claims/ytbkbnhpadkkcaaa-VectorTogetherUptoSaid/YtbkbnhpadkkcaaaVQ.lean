/-
  Intact, evaluated.
-/
import Derived.Test.YtbkbnhpadkkcaaaVP
namespace Go.Ax
variable {n d : Nat}
set_option maxRecDepth 10000

abbrev HG (ls : List (List Draw)) : List Blk := [.box (G1 1 2 ls.length), .arr 23 1 false false (ls.map encV), .arr 23 1 false false (ls.map encV)]
def S19 (ls : List (List Draw)) (i : Nat) : St := ⟨[(0, .ptr 0 0), (6, .dat (.int .i64 i))], HG ls⟩

theorem intact_loop (ls : List (List Draw)) (h1 : ls.length ≤ 1999999) (h2 : ∀ l ∈ ls, l.length ≤ 1999999) (hn : 1999999 < n) : ∀ (k m i : Nat), i + k = ls.length → k < m →
    loopAt (XCode.run (runFn T n (d + 1)) n 3 xf_plain_Given_Intact_b3) (headOf 3 xf_plain_Given_Intact_k3) m (S19 ls i) = some (.exit 6, ⟨[(0, .ptr 0 0)], HG ls⟩)
  | 0, m + 1, i, h, hm => by
    have hi : ¬ ((i : Int) < ls.length) := by omega
    apply loop_exit
    simp [xf_plain_Given_Intact_b3, S19, hi]
  | k + 1, m + 1, i, h, hm => by
    have hi : ((i : Int) < ls.length) := by omega
    have hia : i < ls.length := by omega
    have hw := wrap_i i (by omega)
    have h16 := p16 (n := n) (d := d) ls[i] ls[i] (h2 _ (List.getElem_mem hia)) hn
    simp at h16
    rw [← intact_loop ls h1 h2 hn k m (i + 1) (by omega) (by omega)]
    refine loop_step (s2 := S19 ls (i + 1)) ?_ ?_
    · simp [xf_plain_Given_Intact_b3, S19, hi, hia, hw, h16]
    · simp [xf_plain_Given_Intact_k3, S19]

theorem p19 (ls : List (List Draw)) (h1 : ls.length ≤ 1999999) (h2 : ∀ l ∈ ls, l.length ≤ 1999999) (hn : 1999999 < n) : runFn T n (d + 2) 19 [.ptr 0 0] (HG ls) = some (.dat (.bool true), HG ls) := by
  have h0 := intact_loop (d := d) ls h1 h2 hn ls.length n 0 (by omega) (by omega)
  simp [S19, xf_plain_Given_Intact_k3] at h0
  obtain ⟨m, rfl⟩ : ∃ m, n = m + 1 := ⟨n - 1, by omega⟩
  have e0 : loopAt (XCode.run (runFn T (m + 1) (d + 1)) (m + 1) 3 xf_plain_Given_Intact_b0) (headOf 3 [(0, none), (3, none)]) (m + 1) ⟨[(0, .ptr 0 0), (3, .dat (.int .i64 0))], HG ls⟩ = some (.exit 0, ⟨[(0, .ptr 0 0)], HG ls⟩) := loop_exit (by simp [xf_plain_Given_Intact_b0])
  have e1 : loopAt (XCode.run (runFn T (m + 1) (d + 1)) (m + 1) 3 xf_plain_Given_Intact_b1) (headOf 3 [(0, none), (4, none)]) (m + 1) ⟨[(0, .ptr 0 0), (4, .dat (.int .i64 0))], HG ls⟩ = some (.exit 2, ⟨[(0, .ptr 0 0)], HG ls⟩) := loop_exit (by simp [xf_plain_Given_Intact_b1])
  have e2 : loopAt (XCode.run (runFn T (m + 1) (d + 1)) (m + 1) 3 xf_plain_Given_Intact_b2) (headOf 3 [(0, none), (5, none)]) (m + 1) ⟨[(0, .ptr 0 0), (5, .dat (.int .i64 0))], HG ls⟩ = some (.exit 4, ⟨[(0, .ptr 0 0)], HG ls⟩) := loop_exit (by simp [xf_plain_Given_Intact_b2])
  have e4 : loopAt (XCode.run (runFn T (m + 1) (d + 1)) (m + 1) 3 xf_plain_Given_Intact_b4) (headOf 3 [(0, none), (7, none)]) (m + 1) ⟨[(0, .ptr 0 0), (7, .dat (.int .i64 0))], HG ls⟩ = some (.exit 8, ⟨[], HG ls⟩) := loop_exit (by simp [xf_plain_Given_Intact_b4])
  rw [runFn_succ]
  simp [T, xf_plain_Given_Intact, xf_plain_Given_Intact_k0, xf_plain_Given_Intact_k1, xf_plain_Given_Intact_k2, xf_plain_Given_Intact_k3, xf_plain_Given_Intact_k4, e0, e1, e2, h0, e4]

theorem p19one (l : List Draw) (hl : l.length ≤ 1048576) (hn : 1999999 < n) : runFn T n (d + 2) 19 [.ptr 0 0] [.box (G1 1 2 1), .arr 23 1 false false [.sl 2 true (l.map encD ++ [seal1])], .arr 23 1 false false [.sl 2 true (l.map encD ++ [seal1])]] =
    some (.dat (.bool true), [.box (G1 1 2 1), .arr 23 1 false false [.sl 2 true (l.map encD ++ [seal1])], .arr 23 1 false false [.sl 2 true (l.map encD ++ [seal1])]]) := by
  have h := p19 (n := n) (d := d) [l ++ [⟨77, 88⟩]] (by simp) (by simp; omega) hn
  have e : (l ++ [(⟨77, 88⟩ : Draw)]).map encD = l.map encD ++ [seal1] := by simp
  simp only [HG, List.map_cons, List.map_nil, encV, e, List.length_cons, List.length_nil] at h
  exact h

end Go.Ax
