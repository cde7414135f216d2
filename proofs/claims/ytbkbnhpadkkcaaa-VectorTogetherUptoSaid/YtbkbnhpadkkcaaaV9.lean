/-
  What is handed in: voices.
-/
import Derived.Test.YtbkbnhpadkkcaaaV3
import Derived.Test.YtbkbnhpadkkcaaaVL4
namespace Go.Ax
variable {n d : Nat}
set_option maxRecDepth 10000
set_option linter.unusedSimpArgs false
set_option maxHeartbeats 2000000

def vs (p : List Voice) : List (List Draw) := p.map (·.vec)
def S24 (l p : List Voice) : St := match p with
  | [] => ⟨[(0, .ptr 0 0), (1, .dat (encVos l)), (5, .own 1 0 0), (6, .dat (.int .i64 0))], [.box noG, .arr 56 2 false false []]⟩
  | x :: r => ⟨[(0, .ptr 0 0), (1, .dat (encVos l)), (5, .own 3 0 (r.length + 1)), (6, .dat (.int .i64 (r.length + 1 : Nat)))], [.box (G1 1 2 (r.length + 1)), .arr 23 1 false false ((vs (x :: r)).map sl1), .arr 23 1 false false ((vs (x :: r)).map sl1), .arr 56 2 false false ((x :: r).map encVo)]⟩
theorem step24 (l : List Voice) (hv : ∀ m ∈ l, m.vec.length ≤ 1048576) (hll : l.length ≤ 1048576) (p : List Voice) (v : Voice) (r : List Voice) (hl : l = p ++ v :: r) :
    nextK (headOf 1 xf_plain_Given_Voices_k0) (XCode.run (runFn T n (d + 2)) n 1 xf_plain_Given_Voices_b0 (S24 l p)) = some (S24 l (p ++ [v])) := by
  have hvv := hv v (by simp [hl])
  subst hl
  cases p with
  | nil =>
    have hp := p10z (n := n) (d := d) v.vec hvv
    have hpos : (0 : Int) < (r.length : Int) + 1 := by omega
    simp [xf_plain_Given_Voices_b0, S24, hp, xf_plain_Given_Voices_k0, hpos, wrap1, vs]
  | cons x p =>
    have hpp : p.length + 1 ≤ 1048576 := by simp at hll; omega
    have hp := p10g (n := n) (d := d) (vs (x :: p)) (by simp [vs]) (by simp [vs]; omega) v.vec hvv
    simp [gbox, vs] at hp
    have hw := wrap_i (p.length + 1) (by omega)
    simp at hw
    have h1 : (p.length : Int) < (p.length : Int) + ((r.length : Int) + 1) := by omega
    have h2 : (0 : Int) ≤ (p.length : Int) + 1 := by omega
    have h3 : p.length + 1 + 1 ≤ LIM := by simp only [LIM]; omega
    simp [xf_plain_Given_Voices_b0, S24, hp, xf_plain_Given_Voices_k0, h1, h2, h3, hw, vs]
theorem loop24 (l : List Voice) (hv : ∀ m ∈ l, m.vec.length ≤ 1048576) (hll : l.length ≤ 1048576) (hn : 1999999 < n) :
    loopAt (XCode.run (runFn T n (d + 2)) n 1 xf_plain_Given_Voices_b0) (headOf 1 xf_plain_Given_Voices_k0) n (S24 l []) = some (.exit 0, match l with
      | [] => ⟨[(5, .own 1 0 0)], [.box noG, .arr 56 2 false false []]⟩
      | x :: r => ⟨[(5, .own 3 0 (r.length + 1))], [.box (G1 1 2 (r.length + 1)), .arr 23 1 false false ((vs (x :: r)).map sl1), .arr 23 1 false false ((vs (x :: r)).map sl1), .arr 56 2 false false ((x :: r).map encVo)]⟩) := by
  refine loop_pre (S24 l) l _ (step24 l hv hll) ?_ (fun s h => by simp at h) n (by omega)
  cases l <;> simp [xf_plain_Given_Voices_b0, S24]
def gvH (l : List Voice) : List Blk := match l with
  | [] => [.box noG, .arr 56 2 false false []]
  | x :: r => [.box (G1 2 3 (r.length + 1)), .arr 56 2 false false ((x :: r).map encVo), .arr 23 1 false false ((vs (x :: r)).map sl1), .arr 23 1 false false ((vs (x :: r)).map sl1)]
theorem p24 (l : List Voice) (hv : ∀ m ∈ l, m.vec.length ≤ 1048576) (hll : l.length ≤ 1048576) (hn : 1999999 < n) : runFn T n (d + 3) 24 [.ptr 0 0, .dat (encVos l)] [.box noG] = some (.own 1 0 l.length, gvH l) := by
  have h0 := loop24 (d := d) l hv hll hn
  rw [runFn_succ]
  cases l with
  | nil =>
    simp [S24, xf_plain_Given_Voices_k0] at h0
    simp [T, xf_plain_Given_Voices, xf_plain_Given_Voices_k0, h0, gvH]
  | cons x r =>
    simp [S24, xf_plain_Given_Voices_k0] at h0
    simp [T, xf_plain_Given_Voices, xf_plain_Given_Voices_k0, h0, gvH]
def S24b (ls : List (List Draw)) (m : Voice) (p : List Voice) : St := match p with
  | [] => ⟨[(0, .ptr 0 0), (1, .dat (encVos [m])), (5, .own 3 0 0), (6, .dat (.int .i64 0))], gbox ls ++ [.arr 56 2 false false []]⟩
  | x :: _ => ⟨[(0, .ptr 0 0), (1, .dat (encVos [m])), (5, .own 5 0 1), (6, .dat (.int .i64 1))], [.box (G1 3 4 (ls.length + 1)), .dead, .dead, .arr 23 1 false false ((ls ++ [x.vec]).map sl1), .arr 23 1 false false ((ls ++ [x.vec]).map sl1), .arr 56 2 false false [encVo x]]⟩
theorem p24one (ls : List (List Draw)) (h0 : 0 < ls.length) (hB : ls.length ≤ 1999999) (m : Voice) (hm : m.vec.length ≤ 1048576) (hn : 1999999 < n) : runFn T n (d + 3) 24 [.ptr 0 0, .dat (encVos [m])] (gbox ls) =
    some (.own 3 0 1, [.box (G1 4 5 (ls.length + 1)), .dead, .dead, .arr 56 2 false false [encVo m], .arr 23 1 false false (ls.map sl1 ++ [sl1 m.vec]), .arr 23 1 false false (ls.map sl1 ++ [sl1 m.vec])]) := by
  have hp := p10g (n := n) (d := d) ls h0 hB m.vec hm
  simp [gbox] at hp
  have l0 : loopAt (XCode.run (runFn T n (d + 2)) n 3 xf_plain_Given_Voices_b0) (headOf 3 xf_plain_Given_Voices_k0) n (S24b ls m []) = some (.exit 0, ⟨[(5, .own 5 0 1)], (S24b ls m [m]).H⟩) := by
    refine loop_pre (S24b ls m) [m] _ (fun p v r hl => ?_) ?_ (fun s h => by simp at h) n (by simp; omega)
    · cases p with
      | nil =>
        simp at hl
        obtain ⟨rfl, rfl⟩ := hl
        simp [xf_plain_Given_Voices_b0, S24b, gbox, hp, xf_plain_Given_Voices_k0, wrap1]
      | cons x p => simp at hl
    · simp [xf_plain_Given_Voices_b0, S24b]
  simp [S24b, gbox, xf_plain_Given_Voices_k0] at l0
  rw [runFn_succ]
  simp [T, xf_plain_Given_Voices, xf_plain_Given_Voices_k0, l0, gbox]
end Go.Ax

namespace Go.Ax
variable {n d : Nat}
set_option maxRecDepth 10000
set_option linter.unusedSimpArgs false
set_option maxHeartbeats 2000000

abbrev X56 (m : Voice) : Blk := .arr 56 2 false true [encVo m]
def S24c (m : Voice) (p : List Voice) : St := match p with
  | [] => ⟨[(0, .ptr 0 0), (1, .dat (encVos [m])), (5, .own 2 0 0), (6, .dat (.int .i64 0))], [.box noG, X56 m, .arr 56 2 false false []]⟩
  | x :: _ => ⟨[(0, .ptr 0 0), (1, .dat (encVos [m])), (5, .own 4 0 1), (6, .dat (.int .i64 1))], [.box (G1 2 3 1), X56 m, .arr 23 1 false false [sl1 x.vec], .arr 23 1 false false [sl1 x.vec], .arr 56 2 false false [encVo x]]⟩
theorem p24x (m : Voice) (hm : m.vec.length ≤ 1048576) (hn : 1999999 < n) : runFn T n (d + 3) 24 [.ptr 0 0, .dat (.sl 2 false [encVo m])] [.box noG, X56 m] =
    some (.own 2 0 1, [.box (G1 3 4 1), X56 m, .arr 56 2 false false [encVo m], .arr 23 1 false false [sl1 m.vec], .arr 23 1 false false [sl1 m.vec]]) := by
  have hp := p10z (n := n) (d := d) m.vec hm
  have l0 : loopAt (XCode.run (runFn T n (d + 2)) n 2 xf_plain_Given_Voices_b0) (headOf 2 xf_plain_Given_Voices_k0) n (S24c m []) = some (.exit 0, ⟨[(5, .own 4 0 1)], (S24c m [m]).H⟩) := by
    refine loop_pre (S24c m) [m] _ (fun p v r hl => ?_) ?_ (fun s h => by simp at h) n (by simp; omega)
    · cases p with
      | nil =>
        simp at hl
        obtain ⟨rfl, rfl⟩ := hl
        simp [xf_plain_Given_Voices_b0, S24c, hp, xf_plain_Given_Voices_k0, wrap1]
      | cons x p => simp at hl
    · simp [xf_plain_Given_Voices_b0, S24c]
  simp only [S24c, encVos, List.map_cons, List.map_nil, xf_plain_Given_Voices_k0] at l0
  rw [runFn_succ]
  simp [T, xf_plain_Given_Voices, xf_plain_Given_Voices_k0, l0]
def S24d (ls : List (List Draw)) (m : Voice) (p : List Voice) : St := match p with
  | [] => ⟨[(0, .ptr 0 0), (1, .dat (encVos [m])), (5, .own 4 0 0), (6, .dat (.int .i64 0))], gbox ls ++ [X56 m, .arr 56 2 false false []]⟩
  | x :: _ => ⟨[(0, .ptr 0 0), (1, .dat (encVos [m])), (5, .own 6 0 1), (6, .dat (.int .i64 1))], [.box (G1 4 5 (ls.length + 1)), .dead, .dead, X56 m, .arr 23 1 false false ((ls ++ [x.vec]).map sl1), .arr 23 1 false false ((ls ++ [x.vec]).map sl1), .arr 56 2 false false [encVo x]]⟩
theorem p24onex (ls : List (List Draw)) (h0 : 0 < ls.length) (hB : ls.length ≤ 1999999) (m : Voice) (hm : m.vec.length ≤ 1048576) (hn : 1999999 < n) : runFn T n (d + 3) 24 [.ptr 0 0, .dat (.sl 2 false [encVo m])] (gbox ls ++ [X56 m]) =
    some (.own 4 0 1, [.box (G1 5 6 (ls.length + 1)), .dead, .dead, X56 m, .arr 56 2 false false [encVo m], .arr 23 1 false false (ls.map sl1 ++ [sl1 m.vec]), .arr 23 1 false false (ls.map sl1 ++ [sl1 m.vec])]) := by
  have hp := p10g (n := n) (d := d) ls h0 hB m.vec hm
  simp [gbox] at hp
  have l0 : loopAt (XCode.run (runFn T n (d + 2)) n 4 xf_plain_Given_Voices_b0) (headOf 4 xf_plain_Given_Voices_k0) n (S24d ls m []) = some (.exit 0, ⟨[(5, .own 6 0 1)], (S24d ls m [m]).H⟩) := by
    refine loop_pre (S24d ls m) [m] _ (fun p v r hl => ?_) ?_ (fun s h => by simp at h) n (by simp; omega)
    · cases p with
      | nil =>
        simp at hl
        obtain ⟨rfl, rfl⟩ := hl
        simp [xf_plain_Given_Voices_b0, S24d, gbox, hp, xf_plain_Given_Voices_k0, wrap1]
      | cons x p => simp at hl
    · simp [xf_plain_Given_Voices_b0, S24d]
  simp only [S24d, gbox, encVos, List.map_cons, List.map_nil, xf_plain_Given_Voices_k0, List.cons_append, List.nil_append, List.map_append] at l0
  rw [runFn_succ]
  simp [T, xf_plain_Given_Voices, xf_plain_Given_Voices_k0, l0, gbox]
end Go.Ax
