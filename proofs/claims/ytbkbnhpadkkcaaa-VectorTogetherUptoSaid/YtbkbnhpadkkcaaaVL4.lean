/-
  VectorMerges, evaluated.
-/
import Derived.Test.YtbkbnhpadkkcaaaVQ
import Derived.Test.YtbkbnhpadkkcaaaVW
namespace Go.Ax
variable {n d : Nat}
set_option maxRecDepth 10000

def sl1 (l : List Draw) : Dat := .sl 2 true (l.map encD ++ [seal1])
def gbox (ls : List (List Draw)) : List Blk := [.box (G1 1 2 ls.length), .arr 23 1 false false (ls.map sl1), .arr 23 1 false false (ls.map sl1)]
theorem p10g (ls : List (List Draw)) (h0 : 0 < ls.length) (hB : ls.length ≤ 1999999) (l : List Draw) (hl : l.length ≤ 1048576) : runFn T n (d + 2) 10 [.ptr 0 0, .dat (encV l)] (gbox ls) =
    some (.own 3 0 l.length, [.box (G1 4 5 (ls.length + 1)), .dead, .dead, .arr 26 2 true true (l.map encD ++ [seal1]), .arr 23 1 false false ((ls ++ [l]).map sl1), .arr 23 1 false false ((ls ++ [l]).map sl1)]) := by
  have h := p10s (n := n) (d := d) (ls.map sl1) (ls.map sl1) rfl (by simpa using h0) (by simpa using hB) l hl
  simp at h
  simp [gbox, h, sl1]

theorem p10z (l : List Draw) (hl : l.length ≤ 1048576) : runFn T n (d + 2) 10 [.ptr 0 0, .dat (encV l)] [.box noG] =
    some (.own 1 0 l.length, [.box (G1 2 3 1), .arr 26 2 true true (l.map encD ++ [seal1]), .arr 23 1 false false [sl1 l], .arr 23 1 false false [sl1 l]]) := p10 l hl
def S4 (l : List (List Draw)) (a b : List Draw) (p : List (List Draw)) : St := match p with
  | [] => ⟨[(0, .dat (encL l)), (1, .dat (encV a)), (2, .dat (encV b)), (7, .ptr 0 0), (8, .own 1 0 0), (9, .dat (.int .i64 0))], [.box noG, .arr 23 1 false false []]⟩
  | x :: r => ⟨[(0, .dat (encL l)), (1, .dat (encV a)), (2, .dat (encV b)), (7, .ptr 0 0), (8, .own 3 0 (r.length + 1)), (9, .dat (.int .i64 (r.length + 1 : Nat)))], [.box (G1 1 2 (r.length + 1)), .arr 23 1 false false ((x :: r).map sl1), .arr 23 1 false false ((x :: r).map sl1), .arr 23 1 false false ((x :: r).map encV)]⟩
theorem wrap1 : IntKind.wrap .i64 1 = 1 := by decide
theorem step4 (l : List (List Draw)) (a b : List Draw) (hv : ∀ v ∈ l, v.length ≤ 1048576) (hll : l.length ≤ 1048576) (p : List (List Draw)) (v : List Draw) (r : List (List Draw)) (hl : l = p ++ v :: r) :
    nextK (headOf 0 xf_law03_VectorMerges_k0) (XCode.run (runFn T n (d + 3)) n 0 xf_law03_VectorMerges_b0 (S4 l a b p)) = some (S4 l a b (p ++ [v])) := by
  have hvv := hv v (by simp [hl])
  subst hl
  cases p with
  | nil =>
    have hp := p10z (n := n) (d := d + 1) v hvv
    have hpos : (0 : Int) < (r.length : Int) + 1 := by omega
    simp [xf_law03_VectorMerges_b0, S4, hp, xf_law03_VectorMerges_k0, hpos, wrap1]
  | cons x p =>
    have hpp : p.length + 1 ≤ 1048576 := by simp at hll; omega
    have hp := p10g (n := n) (d := d + 1) (x :: p) (by simp) (by simp; omega) v hvv
    simp [gbox] at hp
    have hw := wrap_i (p.length + 1) (by omega)
    simp at hw
    have h1 : (p.length : Int) < (p.length : Int) + ((r.length : Int) + 1) := by omega
    have h2 : (0 : Int) ≤ (p.length : Int) + 1 := by omega
    have h3 : p.length + 1 + 1 ≤ LIM := by simp only [LIM]; omega
    simp [xf_law03_VectorMerges_b0, S4, hp, xf_law03_VectorMerges_k0, h1, h2, h3, hw]
def E4 (a b : List Draw) (p : List (List Draw)) : St := match p with
  | [] => ⟨[(1, .dat (encV a)), (2, .dat (encV b)), (7, .ptr 0 0), (8, .own 1 0 0)], [.box noG, .arr 23 1 false false []]⟩
  | x :: r => ⟨[(1, .dat (encV a)), (2, .dat (encV b)), (7, .ptr 0 0), (8, .own 3 0 (r.length + 1))], [.box (G1 1 2 (r.length + 1)), .arr 23 1 false false ((x :: r).map sl1), .arr 23 1 false false ((x :: r).map sl1), .arr 23 1 false false ((x :: r).map encV)]⟩
theorem loop4 (l : List (List Draw)) (a b : List Draw) (hv : ∀ v ∈ l, v.length ≤ 1048576) (hll : l.length ≤ 1048576) (hn : 1999999 < n) :
    loopAt (XCode.run (runFn T n (d + 3)) n 0 xf_law03_VectorMerges_b0) (headOf 0 xf_law03_VectorMerges_k0) n (S4 l a b []) = some (.exit 0, ⟨(0, .dat (encL l)) :: (E4 a b l).env, (E4 a b l).H⟩) := by
  refine loop_pre (S4 l a b) l _ (step4 l a b hv hll) ?_ (fun s h => by simp at h) n (by omega)
  cases l <;> simp [xf_law03_VectorMerges_b0, S4, E4]
theorem p19g (ls : List (List Draw)) (h1 : ls.length ≤ 1999999) (h2 : ∀ l ∈ ls, l.length ≤ 1048576) (hn : 1999999 < n) : runFn T n (d + 2) 19 [.ptr 0 0] (gbox ls) = some (.dat (.bool true), gbox ls) := by
  have h := p19 (n := n) (d := d) (ls.map (· ++ [(⟨77, 88⟩ : Draw)])) (by simpa using h1) (by
    intro l hl
    obtain ⟨x, hx, rfl⟩ := List.mem_map.1 hl
    have := h2 x hx
    simp; omega) hn
  have e : (ls.map (· ++ [(⟨77, 88⟩ : Draw)])).map encV = ls.map sl1 := by
    rw [List.map_map]
    refine List.map_congr_left fun x _ => ?_
    simp [sl1]
  simp only [HG, e, List.length_map] at h
  exact h

theorem merge_same (l : List (List Draw)) (hN : ∀ v ∈ l, ∀ x ∈ v, Nn x) : mergeR2 l = mergeR l := by
  unfold mergeR2 mergeR
  by_cases hb : badl l
  · rw [if_pos hb, if_pos hb]
  · rw [if_neg hb, if_neg hb]
    cases l with
    | nil => rfl
    | cons v0 r =>
      refine (merged_cols v0 r (fun v hv => ?_) (fun x hx => hN v0 (by simp) x hx)).symm
      have h2 : ¬ badv v0.length v := fun h => hb (.inr ⟨v, hv, h⟩)
      simp only [badv, not_or, Classical.not_not, ne_eq] at h2
      exact h2.2

theorem mergeR_len (l : List (List Draw)) : (mergeR l).length ≤ 7 := by
  unfold mergeR
  by_cases hb : badl l
  · rw [if_pos hb]; simp
  · rw [if_neg hb]
    cases l with
    | nil => simp [merged]
    | cons v0 r =>
      have hall : ∀ v ∈ v0 :: r, v.length = v0.length ∧ v.length ≤ 7 := fun v hv => by
        have h2 : ¬ badv v0.length v := fun h => hb (.inr ⟨v, hv, h⟩)
        simp only [badv, not_or, Classical.not_not, ne_eq] at h2
        exact ⟨h2.2, h2.1.2⟩
      have := merged_length (k := v0.length) (l := v0 :: r) (fun v hv => (hall v hv).1)
      have h7 := (hall v0 (by simp)).2
      show (merged v0.length (v0 :: r)).length ≤ 7
      omega

theorem law4 (l : List (List Draw)) (a b : List Draw) (hv : ∀ v ∈ l, v.length ≤ 1048576) (hll : l.length ≤ 1048576) (ha : a.length ≤ 1048576) (hb : b.length ≤ 1048576) (hN : ∀ v ∈ l, ∀ x ∈ v, Nn x) (hn : 1999999 < n) :
    ∃ H, runFn T n (d + 4) 4 [.dat (encL l), .dat (encV a), .dat (encV b)] [] = some (.dat (.bool true), H) := by
  have h0 := loop4 (d := d) l a b hv (by omega) hn
  have h20 := p20 (n := n) (d := d + 1) l (by omega) hn
  have h21 := p21 (n := n) (d := d) l (by omega) hn
  rw [merge_same l hN] at h21
  have h16 := p16 (n := n) (d := d + 2) (mergeR l) (mergeR l) (by have := mergeR_len l; omega) hn
  simp at h16
  have h15 := p15 (n := n) (d := d + 2) (mergeE l)
  have h22 := p22 (n := n) (d := d + 1) a b (by omega) hn
  have h23 := p23 (n := n) (d := d) a b (by omega) hn
  rw [runFn_succ]
  cases l with
  | nil =>
    have g1 := p10z (n := n) (d := d + 1) a ha
    have g2 := p10g (n := n) (d := d + 1) [a] (by simp) (by simp) b hb
    have g3 := p19g (n := n) (d := d + 1) [a, b] (by simp) (by simp [ha, hb]) hn
    have h20' : runFn T n (d + 3) 20 [.dat (.sl 1 false [])] [] = _ := h20
    simp [gbox] at g2 g3
    simp [S4, E4, xf_law03_VectorMerges_k0] at h0
    simp [T, xf_law03_VectorMerges, xf_law03_VectorMerges_k0, h0, h20, h20', h21, h16, h15, h22, h23, g1, g2, g3]
  | cons x r =>
    have g1 := p10g (n := n) (d := d + 1) (x :: r) (by simp) (by simp at hll ⊢; omega) a ha
    have g2 := p10g (n := n) (d := d + 1) (x :: r ++ [a]) (by simp) (by simp at hll ⊢; omega) b hb
    have g3 := p19g (n := n) (d := d + 1) (x :: r ++ [a, b]) (by simp at hll ⊢; omega) (by
      intro v hv'
      rcases List.mem_append.1 hv' with h | h
      · exact hv v h
      · simp at h
        rcases h with rfl | rfl
        · exact ha
        · exact hb) hn
    have h20' : runFn T n (d + 3) 20 [.dat (.sl 1 false (encV x :: r.map encV))] [] = _ := h20
    simp [gbox] at g1 g2 g3
    rw [show r.length + 2 + 1 = r.length + 1 + 1 + 1 from rfl] at g3
    simp [S4, E4, xf_law03_VectorMerges_k0] at h0
    simp [T, xf_law03_VectorMerges, xf_law03_VectorMerges_k0, h0, h20, h20', h21, h16, h15, h22, h23, g1, g2, g3]
end Go.Ax
