/-
  Parts of voices; what is consistent.
-/
import Derived.Test.YtbkbnhpadkkcaaaV9
namespace Go.Ax
variable {n d : Nat}
set_option maxRecDepth 10000
set_option linter.unusedSimpArgs false
set_option maxHeartbeats 2000000

def partL : List Voice → List Bool → List Voice
  | [], _ => []
  | _ :: _, [] => []
  | m :: r, b :: bs => if b = true then m :: partL r bs else partL r bs
theorem partL_nil (l : List Voice) : partL l [] = [] := by cases l <;> rfl
theorem partL_snoc (v : Voice) : ∀ (p : List Voice) (bs : List Bool), partL (p ++ [v]) bs = partL p bs ++ (if bs.getD p.length false = true then [v] else [])
  | [], [] => by simp [partL]
  | [], b :: bs => by cases b <;> simp [partL]
  | x :: p, [] => by simp [partL]
  | x :: p, b :: bs => by
    have := partL_snoc v p bs
    cases b <;> simp [partL, this]
theorem partL_mem {m : Voice} : ∀ {l : List Voice} {bs : List Bool}, m ∈ partL l bs → m ∈ l
  | [], _, h => by simp [partL] at h
  | x :: r, [], h => by simp [partL] at h
  | x :: r, b :: bs, h => by
    simp only [partL] at h
    split at h
    · rcases List.mem_cons.1 h with e | e
      · rw [e]; simp
      · exact List.mem_cons_of_mem _ (partL_mem e)
    · exact List.mem_cons_of_mem _ (partL_mem h)
theorem partL_len : ∀ (l : List Voice) (bs : List Bool), (partL l bs).length ≤ l.length
  | [], _ => by simp [partL]
  | x :: r, [] => by simp [partL]
  | x :: r, b :: bs => by
    have := partL_len r bs
    simp only [partL]
    split <;> simp <;> omega
theorem partL_map (f : Voice → Bool) : ∀ l : List Voice, partL l (l.map f) = l.filter f
  | [] => rfl
  | x :: r => by
    simp only [List.map_cons, partL, partL_map f r, List.filter_cons]

def S33 (l : List Voice) (bs : List Bool) (p : List Voice) : St := ⟨[(0, .dat (encVos l)), (1, .dat (encBs bs)), (5, .own 0 0 (partL p bs).length), (6, .dat (.int .i64 p.length))], [.arr 56 2 false false ((partL p bs).map encVo)]⟩
theorem l33 (cf : CallF) (l : List Voice) (bs : List Bool) (hl : l.length ≤ 1999998) (hn : 1999999 < n) : loopAt (XCode.run cf n 0 xf_law03_part_b0) (headOf 0 xf_law03_part_k0) n (S33 l bs []) = some (.exit 0, ⟨[(5, .own 0 0 (partL l bs).length)], [.arr 56 2 false false ((partL l bs).map encVo)]⟩) := by
  refine loop_pre (S33 l bs) l _ (fun p v r hl2 => ?_) ?_ (fun s h => by simp at h) n (by omega)
  · have hx : (p.length : Int) < l.length := by rw [hl2]; simp; omega
    have hpl : p.length < l.length := by rw [hl2]; simp
    have hg : l[p.length] = v := by simp [hl2]
    have hw := wrap_i p.length (by omega)
    have hI := partL_len p bs
    have hL : (partL p bs).length + 1 ≤ LIM := by simp only [LIM]; omega
    have hs := partL_snoc v p bs
    simp at hw
    simp only [S33, hs]
    generalize partL p bs = I at hL ⊢
    by_cases hb : p.length < bs.length
    · have hb' : (p.length : Int) < bs.length := by omega
      have hgd : bs.getD p.length false = bs[p.length] := by simp [List.getD, hb]
      rw [hgd]
      cases hv : bs[p.length]
      · simp [xf_law03_part_b0, xf_law03_part_k0, hx, hpl, hg, hw, hL, hb, hb', hv]
      · simp [xf_law03_part_b0, xf_law03_part_k0, hx, hpl, hg, hw, hL, hb, hb', hv]
    · have hb' : ¬ (p.length : Int) < bs.length := by omega
      have hgd : bs.getD p.length false = false := by simp [List.getD, hb]
      rw [hgd]
      simp [xf_law03_part_b0, xf_law03_part_k0, hx, hpl, hg, hw, hL, hb, hb']
  · simp [xf_law03_part_b0, S33]
theorem p33 (l : List Voice) (bs : List Bool) (hl : l.length ≤ 1999998) (hn : 1999999 < n) : runFn T n (d + 1) 33 [.dat (encVos l), .dat (encBs bs)] [] = some (.dat (encVos (partL l bs)), []) := by
  have h0 := l33 (runFn T n d) l bs hl hn
  simp only [S33, partL, List.map_nil, List.length_nil, Int.natCast_zero, xf_law03_part_k0] at h0
  rw [runFn_succ]
  generalize partL l bs = I at h0 ⊢
  simp [T, xf_law03_part, xf_law03_part_k0, h0]

theorem inn_none {l : List Voice} {m : Voice} : inn l m = none ↔ ∀ x ∈ l, ov x.vec m = false := by
  unfold inn
  rw [List.findIdx?_eq_none_iff]
theorem goC_none (l : List Voice) : ∀ (r : List Voice) (i : Nat), goC l i r = none ↔ ∀ m ∈ r, ∀ x ∈ l, ov x.vec m = false
  | [], i => by simp [goC]
  | m :: r, i => by
    simp only [goC, List.mem_cons, forall_eq_or_imp]
    cases h : inn l m with
    | none => simp only [goC_none l r (i + 1), inn_none.1 h]; simp; exact fun _ => inn_none.1 h
    | some k =>
      simp only [reduceCtorEq, false_iff, not_and]
      intro h2
      rw [inn_none.2 h2] at h
      cases h
theorem voOk_part {l q : List Voice} (h : voOk l = true) (hq : ∀ m ∈ q, m ∈ l) : voOk q = true := by
  have hall := voOk_all h
  unfold voOk
  rw [Option.isNone_iff_eq_none, List.find?_eq_none]
  intro m hm
  have hk : k0 q = k0 l := by
    cases q with
    | nil => cases hm
    | cons y r => exact (hall y (hq y (by simp))).2
  unfold badVo
  have := hall m (hq m hm)
  simp [this.1, this.2, hk]
end Go.Ax
