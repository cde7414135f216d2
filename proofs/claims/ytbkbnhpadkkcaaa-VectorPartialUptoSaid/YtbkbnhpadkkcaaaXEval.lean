/-
  Ax, text 26: for the evaluation of laws: what unfolds by itself, loops, numbers.
-/
import Derived.Test.YtbkbnhpadkkcaaaXRow
namespace Go.Ax

attribute [simp] XCode.run runOps runOp params get XO.ev bin intBin evRes tupOf canon reach AV.refs AV.refsL AV.ren AV.renL Blk.ren Blk.refs headOf keepEnv traceOps runTouched parOk apartT loadAt mkAgg Dat.cells AV.cells cellsEq leafEq restrict
  storeAt setCells appendTo slElems AV.toDat AV.toDatL blkRefs closedUnder shown backTo merge freeze1 AV.owns AV.ownsL AV.strip AV.stripL allDat mkAggV AV.hasPtr AV.hasPtrL doCall slLen evOr fillParts chunks Dat.flat Dat.flats AV.one AV.isAgg AV.safe AV.safeL flatArr
attribute [simp] evalOp touched

@[simp] theorem beq_no {a b : Int} (h : ¬ a = b) : (a == b) = false := by simp [h]
@[simp] theorem le_lim {k : Nat} (h : k ≤ 4294967296) : k ≤ LIM := h
@[simp] theorem le_lim_int {k : Int} (h : k ≤ 4294967296) : k ≤ (LIM : Int) := h
attribute [simp] freeze_nil List.idxOf_cons List.range_succ
@[simp] theorem freeze_empty (ids : List Nat) : freeze ids [] = [] := rfl
theorem freeze_unfold (ids : List Nat) (H : List Blk) : freeze ids H = H.mapIdx fun i b => if ids.contains i then freeze1 b else b := rfl
@[simp] theorem freeze_cons (i : Nat) (r : List Nat) (b : Blk) (H : List Blk) : freeze (i :: r) (b :: H) = (b :: H).mapIdx fun j b => if (i :: r).contains j then freeze1 b else b := rfl
@[simp] theorem mapIdx_same {α : Type} (l : List α) : l.mapIdx (fun _ b => b) = l := by
  refine List.ext_getElem (by simp) fun i h1 h2 => by simp

section
variable {cf : CallF} {n n0 m : Nat} {b : XCode} {k : List (Nat × Option (Nat × Nat × Bool))} {s s2 s3 : St} {e : Ex}
theorem loop_step (h : XCode.run cf n n0 b s = some (.normal, s2)) (h2 : headOf n0 k s2 = some s3) :
    loopAt (XCode.run cf n n0 b) (headOf n0 k) (m + 1) s = loopAt (XCode.run cf n n0 b) (headOf n0 k) m s3 := by
  simp only [loopAt, h, h2]
theorem loop_exit {j : Nat} (h : XCode.run cf n n0 b s = some (.exit j, s2)) :
    loopAt (XCode.run cf n n0 b) (headOf n0 k) (m + 1) s = some (.exit j, s2) := by
  simp only [loopAt, h]
theorem loop_ret (h : XCode.run cf n n0 b s = some (.ret, s2)) :
    loopAt (XCode.run cf n n0 b) (headOf n0 k) (m + 1) s = some (.ret, s2) := by
  simp only [loopAt, h]
end

/-- A loop that counts up to N, and may stop ahead of it. -/
theorem loop_until {body : St → Option (Ex × St)} {head : St → Option St} (S : Nat → St) (N : Nat) (fin : Ex × St) (stop : Nat → Prop) (r : Nat → Ex × St)
    (step : ∀ i, i < N → ¬ stop i → ∃ s2, body (S i) = some (.normal, s2) ∧ head s2 = some (S (i + 1)))
    (halt : ∀ i, i < N → stop i → body (S i) = some (r i) ∧ ∀ s, r i ≠ (.normal, s)) (done : body (S N) = some fin) (hfin : ∀ s, fin ≠ (.normal, s)) :
    ∀ (k m i : Nat), i + k = N → k < m → (∃ j, i ≤ j ∧ j < N ∧ stop j ∧ (∀ q, i ≤ q → q < j → ¬ stop q) ∧ loopAt body head m (S i) = some (r j)) ∨ ((∀ j, i ≤ j → j < N → ¬ stop j) ∧ loopAt body head m (S i) = some fin)
  | 0, m + 1, i, h, _ => by
    have : i = N := by omega
    subst this
    refine .inr ⟨fun j h1 h2 => by omega, ?_⟩
    simp only [loopAt, done]
    split
    · rename_i s2 h2; injection h2 with h2; exact absurd h2 (hfin _)
    · rfl
  | k + 1, m + 1, i, h, hm => by
    by_cases hs : stop i
    · obtain ⟨h1, h2⟩ := halt i (by omega) hs
      refine .inl ⟨i, Nat.le_refl _, by omega, hs, fun q h1 h2 => by omega, ?_⟩
      simp only [loopAt, h1]
      split
      · rename_i s2 h3; injection h3 with h3; exact absurd h3 (h2 _)
      · rfl
    · obtain ⟨s2, h1, h2⟩ := step i (by omega) hs
      have e : loopAt body head (m + 1) (S i) = loopAt body head m (S (i + 1)) := by simp only [loopAt, h1, h2]
      rw [e]
      rcases loop_until S N fin stop r step halt done hfin k m (i + 1) (by omega) (by omega) with ⟨j, a, b, c, d, f⟩ | ⟨a, b⟩
      · refine .inl ⟨j, by omega, b, c, fun q h1 h2 => ?_, f⟩
        by_cases e : q = i
        · subst e; exact hs
        · exact d q (by omega) h2
      · refine .inr ⟨fun j h1 h2 => ?_, b⟩
        by_cases e : j = i
        · subst e; exact hs
        · exact a j (by omega) h2

/-- A loop that counts up to N. -/
theorem loop_for {body : St → Option (Ex × St)} {head : St → Option St} (S : Nat → St) (N : Nat) (fin : Ex × St) (step : ∀ i, i < N → ∃ s2, body (S i) = some (.normal, s2) ∧ head s2 = some (S (i + 1)))
    (done : body (S N) = some fin) (hfin : ∀ s, fin ≠ (.normal, s)) (m : Nat) (hm : N < m) : loopAt body head m (S 0) = some fin := by
  rcases loop_until S N fin (fun _ => False) (fun _ => fin) (fun i hi _ => step i hi) (fun _ _ h => h.elim) done hfin N m 0 (by omega) hm with ⟨_, _, _, h, _⟩ | ⟨_, h⟩
  · exact h.elim
  · exact h

theorem wrap_i (i : Nat) (h : i < 2^40) : IntKind.wrap .i64 ((i : Int) + 1) = ((i + 1 : Nat) : Int) := by
  simp [IntKind.wrap, IntKind.bits, IntKind.signed]; omega

end Go.Ax
