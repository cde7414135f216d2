/-
  Are two lists, two states one? In general.
-/
import Derived.Test.YtponcchkfmbicaaGreatDoorEC
namespace Go.Ax
set_option linter.all false
variable {n d : Nat}
set_option maxRecDepth 10000
set_option linter.unusedSimpArgs false
set_option maxHeartbeats 4000000

theorem eq_of_get {α : Type} {l k : List α} (h : l.length = k.length) (hs : ∀ j, 0 ≤ j → j < l.length → ¬ (l[j]? ≠ k[j]?)) : l = k :=
  List.ext_getElem? fun j => by
    by_cases hj : j < l.length
    · exact Classical.not_not.1 (hs j (Nat.zero_le _) hj)
    · rw [List.getElem?_eq_none (by omega), List.getElem?_eq_none (by omega)]
theorem lop_eq {a b : LOp} (h1 : a.kind = b.kind) (h2 : a.slot = b.slot) (h3 : a.value = b.value) : a = b := by cases a; cases b; simp_all
theorem draw_eq2 {a b : Draw} (h1 : a.hi = b.hi) (h2 : a.lo = b.lo) : a = b := by cases a; cases b; simp_all
theorem eqb_Ent {x y : Ent} (h : ¬ x = y) : (decide (x.client = y.client) && (decide (x.number = y.number) && (decide (x.op.kind = y.op.kind) && (decide (x.op.slot = y.op.slot) && decide (x.op.value = y.op.value))))) = false := by
  rw [← Bool.not_eq_true]
  intro hb
  simp only [Bool.and_eq_true, decide_eq_true_eq] at hb
  obtain ⟨h1, h2, h3, h4, h5⟩ := hb
  have h6 := lop_eq h3 h4 h5
  exact h (by
    cases x; cases y
    simp_all)
theorem eqb_Draw {x y : Draw} (h : ¬ x = y) : (decide (x.hi = y.hi) && decide (x.lo = y.lo)) = false := by
  rw [← Bool.not_eq_true]
  intro hb
  simp only [Bool.and_eq_true, decide_eq_true_eq] at hb
  exact h (by
    cases x; cases y
    simp_all)
theorem eqb_Ack {x y : Ack} (h : ¬ x = y) : (decide (x.node = y.node) && (decide (x.draw.hi = y.draw.hi) && (decide (x.draw.lo = y.draw.lo) && decide (x.place = y.place)))) = false := by
  rw [← Bool.not_eq_true]
  intro hb
  simp only [Bool.and_eq_true, decide_eq_true_eq] at hb
  obtain ⟨h1, h2, h3, h4⟩ := hb
  have h6 := draw_eq2 h2 h3
  exact h (by
    cases x; cases y
    simp_all)
theorem eqb_Mark {x y : Mark} (h : ¬ x = y) : (decide (x.node = y.node) && (decide (x.draw.hi = y.draw.hi) && decide (x.draw.lo = y.draw.lo))) = false := by
  rw [← Bool.not_eq_true]
  intro hb
  simp only [Bool.and_eq_true, decide_eq_true_eq] at hb
  obtain ⟨h1, h2, h3⟩ := hb
  have h6 := draw_eq2 h2 h3
  exact h (by
    cases x; cases y
    simp_all)
theorem eq_plain_SameEntries (l k : List Ent) (hl : l.length ≤ 1048577) (hn : 1048577 < n) : runFn T n (d + 1) 24 [.dat (encLog l), .dat (encLog k)] [] = some (.dat (.bool (decide (l = k))), []) := by
  by_cases hlen : l.length = k.length
  · have main := loop_until (body := XCode.run (runFn T n d) n 0 xf_plain_SameEntries_b0) (head := headOf 0 xf_plain_SameEntries_k0) (fun i => ⟨[(0, .dat (encLog l)), (1, .dat (encLog k)), (5, .dat (di i))], []⟩) l.length (.exit 0, ⟨[], []⟩) (fun i => l[i]? ≠ k[i]?) (fun _ => (.ret, ⟨[(4, .dat (.bool false))], []⟩))
      (fun i hi hs => nextK_some ?_) (fun i hi hs => ⟨?_, fun s h => by cases h⟩) ?_ (fun s h => by cases h) l.length n 0 (by omega) (by omega)
    · have h1 : (⟨[(0, .dat (encLog l)), (1, .dat (encLog k)), (5, .dat (di (0 : Nat)))], []⟩ : St) = ⟨[(0, .dat (encLog l)), (1, .dat (encLog k)), (5, .dat (di 0))], []⟩ := rfl
      rw [h1] at main
      rw [runFn_succ]
      rcases main with ⟨j, _, hj, hs, _, e⟩ | ⟨hs, e⟩
      · have hne : ¬ l = k := fun h => hs (by rw [h])
        simp [xf_plain_SameEntries_k0] at e
        simp [T, xf_plain_SameEntries, xf_plain_SameEntries_k0, hlen, e, hne]
        try (rw [hlen] at e; simp [e])
      · have heq := eq_of_get hlen hs
        simp [xf_plain_SameEntries_k0] at e
        simp [T, xf_plain_SameEntries, xf_plain_SameEntries_k0, hlen, e, heq]
        try (rw [heq] at e; simp [e])
    · have hk : i < k.length := by omega
      have hi' : (i : Int) < l.length := by omega
      have hk' : (i : Int) < k.length := by omega
      have hw := wrap_i i (by omega)
      have he : l[i] = k[i] := by
        have := Classical.not_not.1 hs
        rw [List.getElem?_eq_getElem hi, List.getElem?_eq_getElem hk] at this
        injection this
      simp [xf_plain_SameEntries_b0, xf_plain_SameEntries_k0, hi, hi', hk, hk', hw, he]
    · have hk : i < k.length := by omega
      have hi' : (i : Int) < l.length := by omega
      have hk' : (i : Int) < k.length := by omega
      have he : ¬ l[i] = k[i] := fun he => hs (by rw [List.getElem?_eq_getElem hi, List.getElem?_eq_getElem hk, he])
      have hb := eqb_Ent he
      simp [xf_plain_SameEntries_b0, hi, hi', hk, hk', hb]
    · simp [xf_plain_SameEntries_b0]
  · have hne : ¬ l = k := fun h => hlen (by rw [h])
    have hlen' : ¬ (l.length : Int) = k.length := by omega
    rw [runFn_succ]
    simp [T, xf_plain_SameEntries, hlen, hlen', hne]
theorem eq_plain_SameVector (l k : List Draw) (hl : l.length ≤ 1048577) (hn : 1048577 < n) : runFn T n (d + 1) 54 [.dat (encV l), .dat (encV k)] [] = some (.dat (.bool (decide (l = k))), []) := by
  by_cases hlen : l.length = k.length
  · have main := loop_until (body := XCode.run (runFn T n d) n 0 xf_plain_SameVector_b0) (head := headOf 0 xf_plain_SameVector_k0) (fun i => ⟨[(0, .dat (encV l)), (1, .dat (encV k)), (5, .dat (di i))], []⟩) l.length (.exit 0, ⟨[], []⟩) (fun i => l[i]? ≠ k[i]?) (fun _ => (.ret, ⟨[(4, .dat (.bool false))], []⟩))
      (fun i hi hs => nextK_some ?_) (fun i hi hs => ⟨?_, fun s h => by cases h⟩) ?_ (fun s h => by cases h) l.length n 0 (by omega) (by omega)
    · have h1 : (⟨[(0, .dat (encV l)), (1, .dat (encV k)), (5, .dat (di (0 : Nat)))], []⟩ : St) = ⟨[(0, .dat (encV l)), (1, .dat (encV k)), (5, .dat (di 0))], []⟩ := rfl
      rw [h1] at main
      rw [runFn_succ]
      rcases main with ⟨j, _, hj, hs, _, e⟩ | ⟨hs, e⟩
      · have hne : ¬ l = k := fun h => hs (by rw [h])
        simp [xf_plain_SameVector_k0] at e
        simp [T, xf_plain_SameVector, xf_plain_SameVector_k0, hlen, e, hne]
        try (rw [hlen] at e; simp [e])
      · have heq := eq_of_get hlen hs
        simp [xf_plain_SameVector_k0] at e
        simp [T, xf_plain_SameVector, xf_plain_SameVector_k0, hlen, e, heq]
        try (rw [heq] at e; simp [e])
    · have hk : i < k.length := by omega
      have hi' : (i : Int) < l.length := by omega
      have hk' : (i : Int) < k.length := by omega
      have hw := wrap_i i (by omega)
      have he : l[i] = k[i] := by
        have := Classical.not_not.1 hs
        rw [List.getElem?_eq_getElem hi, List.getElem?_eq_getElem hk] at this
        injection this
      simp [xf_plain_SameVector_b0, xf_plain_SameVector_k0, hi, hi', hk, hk', hw, he]
    · have hk : i < k.length := by omega
      have hi' : (i : Int) < l.length := by omega
      have hk' : (i : Int) < k.length := by omega
      have he : ¬ l[i] = k[i] := fun he => hs (by rw [List.getElem?_eq_getElem hi, List.getElem?_eq_getElem hk, he])
      have hb := eqb_Draw he
      simp [xf_plain_SameVector_b0, hi, hi', hk, hk', hb]
    · simp [xf_plain_SameVector_b0]
  · have hne : ¬ l = k := fun h => hlen (by rw [h])
    have hlen' : ¬ (l.length : Int) = k.length := by omega
    rw [runFn_succ]
    simp [T, xf_plain_SameVector, hlen, hlen', hne]
theorem eq_plain_sameAcks (l k : List Ack) (hl : l.length ≤ 1048577) (hn : 1048577 < n) : runFn T n (d + 1) 55 [.dat (encAcks l), .dat (encAcks k)] [] = some (.dat (.bool (decide (l = k))), []) := by
  by_cases hlen : l.length = k.length
  · have main := loop_until (body := XCode.run (runFn T n d) n 0 xf_plain_sameAcks_b0) (head := headOf 0 xf_plain_sameAcks_k0) (fun i => ⟨[(0, .dat (encAcks l)), (1, .dat (encAcks k)), (5, .dat (di i))], []⟩) l.length (.exit 0, ⟨[], []⟩) (fun i => l[i]? ≠ k[i]?) (fun _ => (.ret, ⟨[(4, .dat (.bool false))], []⟩))
      (fun i hi hs => nextK_some ?_) (fun i hi hs => ⟨?_, fun s h => by cases h⟩) ?_ (fun s h => by cases h) l.length n 0 (by omega) (by omega)
    · have h1 : (⟨[(0, .dat (encAcks l)), (1, .dat (encAcks k)), (5, .dat (di (0 : Nat)))], []⟩ : St) = ⟨[(0, .dat (encAcks l)), (1, .dat (encAcks k)), (5, .dat (di 0))], []⟩ := rfl
      rw [h1] at main
      rw [runFn_succ]
      rcases main with ⟨j, _, hj, hs, _, e⟩ | ⟨hs, e⟩
      · have hne : ¬ l = k := fun h => hs (by rw [h])
        simp [xf_plain_sameAcks_k0] at e
        simp [T, xf_plain_sameAcks, xf_plain_sameAcks_k0, hlen, e, hne]
        try (rw [hlen] at e; simp [e])
      · have heq := eq_of_get hlen hs
        simp [xf_plain_sameAcks_k0] at e
        simp [T, xf_plain_sameAcks, xf_plain_sameAcks_k0, hlen, e, heq]
        try (rw [heq] at e; simp [e])
    · have hk : i < k.length := by omega
      have hi' : (i : Int) < l.length := by omega
      have hk' : (i : Int) < k.length := by omega
      have hw := wrap_i i (by omega)
      have he : l[i] = k[i] := by
        have := Classical.not_not.1 hs
        rw [List.getElem?_eq_getElem hi, List.getElem?_eq_getElem hk] at this
        injection this
      simp [xf_plain_sameAcks_b0, xf_plain_sameAcks_k0, hi, hi', hk, hk', hw, he]
    · have hk : i < k.length := by omega
      have hi' : (i : Int) < l.length := by omega
      have hk' : (i : Int) < k.length := by omega
      have he : ¬ l[i] = k[i] := fun he => hs (by rw [List.getElem?_eq_getElem hi, List.getElem?_eq_getElem hk, he])
      have hb := eqb_Ack he
      simp [xf_plain_sameAcks_b0, hi, hi', hk, hk', hb]
    · simp [xf_plain_sameAcks_b0]
  · have hne : ¬ l = k := fun h => hlen (by rw [h])
    have hlen' : ¬ (l.length : Int) = k.length := by omega
    rw [runFn_succ]
    simp [T, xf_plain_sameAcks, hlen, hlen', hne]
theorem eq_plain_sameMarks (l k : List Mark) (hl : l.length ≤ 1048577) (hn : 1048577 < n) : runFn T n (d + 1) 56 [.dat (encMarks l), .dat (encMarks k)] [] = some (.dat (.bool (decide (l = k))), []) := by
  by_cases hlen : l.length = k.length
  · have main := loop_until (body := XCode.run (runFn T n d) n 0 xf_plain_sameMarks_b0) (head := headOf 0 xf_plain_sameMarks_k0) (fun i => ⟨[(0, .dat (encMarks l)), (1, .dat (encMarks k)), (5, .dat (di i))], []⟩) l.length (.exit 0, ⟨[], []⟩) (fun i => l[i]? ≠ k[i]?) (fun _ => (.ret, ⟨[(4, .dat (.bool false))], []⟩))
      (fun i hi hs => nextK_some ?_) (fun i hi hs => ⟨?_, fun s h => by cases h⟩) ?_ (fun s h => by cases h) l.length n 0 (by omega) (by omega)
    · have h1 : (⟨[(0, .dat (encMarks l)), (1, .dat (encMarks k)), (5, .dat (di (0 : Nat)))], []⟩ : St) = ⟨[(0, .dat (encMarks l)), (1, .dat (encMarks k)), (5, .dat (di 0))], []⟩ := rfl
      rw [h1] at main
      rw [runFn_succ]
      rcases main with ⟨j, _, hj, hs, _, e⟩ | ⟨hs, e⟩
      · have hne : ¬ l = k := fun h => hs (by rw [h])
        simp [xf_plain_sameMarks_k0] at e
        simp [T, xf_plain_sameMarks, xf_plain_sameMarks_k0, hlen, e, hne]
        try (rw [hlen] at e; simp [e])
      · have heq := eq_of_get hlen hs
        simp [xf_plain_sameMarks_k0] at e
        simp [T, xf_plain_sameMarks, xf_plain_sameMarks_k0, hlen, e, heq]
        try (rw [heq] at e; simp [e])
    · have hk : i < k.length := by omega
      have hi' : (i : Int) < l.length := by omega
      have hk' : (i : Int) < k.length := by omega
      have hw := wrap_i i (by omega)
      have he : l[i] = k[i] := by
        have := Classical.not_not.1 hs
        rw [List.getElem?_eq_getElem hi, List.getElem?_eq_getElem hk] at this
        injection this
      simp [xf_plain_sameMarks_b0, xf_plain_sameMarks_k0, hi, hi', hk, hk', hw, he]
    · have hk : i < k.length := by omega
      have hi' : (i : Int) < l.length := by omega
      have hk' : (i : Int) < k.length := by omega
      have he : ¬ l[i] = k[i] := fun he => hs (by rw [List.getElem?_eq_getElem hi, List.getElem?_eq_getElem hk, he])
      have hb := eqb_Mark he
      simp [xf_plain_sameMarks_b0, hi, hi', hk, hk', hb]
    · simp [xf_plain_sameMarks_b0]
  · have hne : ¬ l = k := fun h => hlen (by rw [h])
    have hlen' : ¬ (l.length : Int) = k.length := by omega
    rw [runFn_succ]
    simp [T, xf_plain_sameMarks, hlen, hlen', hne]
theorem eq_slices_Equal_Entry_Entry (l k : List Ent) (hl : l.length ≤ 1048577) (hn : 1048577 < n) : runFn T n (d + 1) 82 [.dat (encLog l), .dat (encLog k)] [] = some (.dat (.bool (decide (l = k))), []) := by
  by_cases hlen : l.length = k.length
  · have main := loop_until (body := XCode.run (runFn T n d) n 0 xf_slices_Equal_Entry_Entry_b0) (head := headOf 0 xf_slices_Equal_Entry_Entry_k0) (fun i => ⟨[(0, .dat (encLog l)), (1, .dat (encLog k)), (12, .dat (di l.length)), (13, .dat (di i))], []⟩) l.length (.exit 0, ⟨[], []⟩) (fun i => l[i]? ≠ k[i]?) (fun _ => (.ret, ⟨[(4, .dat (.bool false))], []⟩))
      (fun i hi hs => nextK_some ?_) (fun i hi hs => ⟨?_, fun s h => by cases h⟩) ?_ (fun s h => by cases h) l.length n 0 (by omega) (by omega)
    · have h1 : (⟨[(0, .dat (encLog l)), (1, .dat (encLog k)), (12, .dat (di l.length)), (13, .dat (di (0 : Nat)))], []⟩ : St) = ⟨[(0, .dat (encLog l)), (1, .dat (encLog k)), (12, .dat (di l.length)), (13, .dat (di 0))], []⟩ := rfl
      rw [h1] at main
      rw [runFn_succ]
      rcases main with ⟨j, _, hj, hs, _, e⟩ | ⟨hs, e⟩
      · have hne : ¬ l = k := fun h => hs (by rw [h])
        simp [xf_slices_Equal_Entry_Entry_k0] at e
        simp [T, xf_slices_Equal_Entry_Entry, xf_slices_Equal_Entry_Entry_k0, hlen, e, hne]
        try (rw [hlen] at e; simp [e])
      · have heq := eq_of_get hlen hs
        simp [xf_slices_Equal_Entry_Entry_k0] at e
        simp [T, xf_slices_Equal_Entry_Entry, xf_slices_Equal_Entry_Entry_k0, hlen, e, heq]
        try (rw [heq] at e; simp [e])
    · have hk : i < k.length := by omega
      have hi' : (i : Int) < l.length := by omega
      have hk' : (i : Int) < k.length := by omega
      have hw := wrap_i i (by omega)
      have he : l[i] = k[i] := by
        have := Classical.not_not.1 hs
        rw [List.getElem?_eq_getElem hi, List.getElem?_eq_getElem hk] at this
        injection this
      simp [xf_slices_Equal_Entry_Entry_b0, xf_slices_Equal_Entry_Entry_k0, hi, hi', hk, hk', hw, he]
    · have hk : i < k.length := by omega
      have hi' : (i : Int) < l.length := by omega
      have hk' : (i : Int) < k.length := by omega
      have he : ¬ l[i] = k[i] := fun he => hs (by rw [List.getElem?_eq_getElem hi, List.getElem?_eq_getElem hk, he])
      have hb := eqb_Ent he
      simp [xf_slices_Equal_Entry_Entry_b0, hi, hi', hk, hk', hb]
    · simp [xf_slices_Equal_Entry_Entry_b0]
  · have hne : ¬ l = k := fun h => hlen (by rw [h])
    have hlen' : ¬ (l.length : Int) = k.length := by omega
    rw [runFn_succ]
    simp [T, xf_slices_Equal_Entry_Entry, hlen, hlen', hne]
theorem eq_slices_Equal_Vector_Draw (l k : List Draw) (hl : l.length ≤ 1048577) (hn : 1048577 < n) : runFn T n (d + 1) 85 [.dat (encV l), .dat (encV k)] [] = some (.dat (.bool (decide (l = k))), []) := by
  by_cases hlen : l.length = k.length
  · have main := loop_until (body := XCode.run (runFn T n d) n 0 xf_slices_Equal_Vector_Draw_b0) (head := headOf 0 xf_slices_Equal_Vector_Draw_k0) (fun i => ⟨[(0, .dat (encV l)), (1, .dat (encV k)), (12, .dat (di l.length)), (13, .dat (di i))], []⟩) l.length (.exit 0, ⟨[], []⟩) (fun i => l[i]? ≠ k[i]?) (fun _ => (.ret, ⟨[(4, .dat (.bool false))], []⟩))
      (fun i hi hs => nextK_some ?_) (fun i hi hs => ⟨?_, fun s h => by cases h⟩) ?_ (fun s h => by cases h) l.length n 0 (by omega) (by omega)
    · have h1 : (⟨[(0, .dat (encV l)), (1, .dat (encV k)), (12, .dat (di l.length)), (13, .dat (di (0 : Nat)))], []⟩ : St) = ⟨[(0, .dat (encV l)), (1, .dat (encV k)), (12, .dat (di l.length)), (13, .dat (di 0))], []⟩ := rfl
      rw [h1] at main
      rw [runFn_succ]
      rcases main with ⟨j, _, hj, hs, _, e⟩ | ⟨hs, e⟩
      · have hne : ¬ l = k := fun h => hs (by rw [h])
        simp [xf_slices_Equal_Vector_Draw_k0] at e
        simp [T, xf_slices_Equal_Vector_Draw, xf_slices_Equal_Vector_Draw_k0, hlen, e, hne]
        try (rw [hlen] at e; simp [e])
      · have heq := eq_of_get hlen hs
        simp [xf_slices_Equal_Vector_Draw_k0] at e
        simp [T, xf_slices_Equal_Vector_Draw, xf_slices_Equal_Vector_Draw_k0, hlen, e, heq]
        try (rw [heq] at e; simp [e])
    · have hk : i < k.length := by omega
      have hi' : (i : Int) < l.length := by omega
      have hk' : (i : Int) < k.length := by omega
      have hw := wrap_i i (by omega)
      have he : l[i] = k[i] := by
        have := Classical.not_not.1 hs
        rw [List.getElem?_eq_getElem hi, List.getElem?_eq_getElem hk] at this
        injection this
      simp [xf_slices_Equal_Vector_Draw_b0, xf_slices_Equal_Vector_Draw_k0, hi, hi', hk, hk', hw, he]
    · have hk : i < k.length := by omega
      have hi' : (i : Int) < l.length := by omega
      have hk' : (i : Int) < k.length := by omega
      have he : ¬ l[i] = k[i] := fun he => hs (by rw [List.getElem?_eq_getElem hi, List.getElem?_eq_getElem hk, he])
      have hb := eqb_Draw he
      simp [xf_slices_Equal_Vector_Draw_b0, hi, hi', hk, hk', hb]
    · simp [xf_slices_Equal_Vector_Draw_b0]
  · have hne : ¬ l = k := fun h => hlen (by rw [h])
    have hlen' : ¬ (l.length : Int) = k.length := by omega
    rw [runFn_succ]
    simp [T, xf_slices_Equal_Vector_Draw, hlen, hlen', hne]
theorem eq_slices_Equal_Ack_Ack (l k : List Ack) (hl : l.length ≤ 1048577) (hn : 1048577 < n) : runFn T n (d + 1) 86 [.dat (encAcks l), .dat (encAcks k)] [] = some (.dat (.bool (decide (l = k))), []) := by
  by_cases hlen : l.length = k.length
  · have main := loop_until (body := XCode.run (runFn T n d) n 0 xf_slices_Equal_Ack_Ack_b0) (head := headOf 0 xf_slices_Equal_Ack_Ack_k0) (fun i => ⟨[(0, .dat (encAcks l)), (1, .dat (encAcks k)), (12, .dat (di l.length)), (13, .dat (di i))], []⟩) l.length (.exit 0, ⟨[], []⟩) (fun i => l[i]? ≠ k[i]?) (fun _ => (.ret, ⟨[(4, .dat (.bool false))], []⟩))
      (fun i hi hs => nextK_some ?_) (fun i hi hs => ⟨?_, fun s h => by cases h⟩) ?_ (fun s h => by cases h) l.length n 0 (by omega) (by omega)
    · have h1 : (⟨[(0, .dat (encAcks l)), (1, .dat (encAcks k)), (12, .dat (di l.length)), (13, .dat (di (0 : Nat)))], []⟩ : St) = ⟨[(0, .dat (encAcks l)), (1, .dat (encAcks k)), (12, .dat (di l.length)), (13, .dat (di 0))], []⟩ := rfl
      rw [h1] at main
      rw [runFn_succ]
      rcases main with ⟨j, _, hj, hs, _, e⟩ | ⟨hs, e⟩
      · have hne : ¬ l = k := fun h => hs (by rw [h])
        simp [xf_slices_Equal_Ack_Ack_k0] at e
        simp [T, xf_slices_Equal_Ack_Ack, xf_slices_Equal_Ack_Ack_k0, hlen, e, hne]
        try (rw [hlen] at e; simp [e])
      · have heq := eq_of_get hlen hs
        simp [xf_slices_Equal_Ack_Ack_k0] at e
        simp [T, xf_slices_Equal_Ack_Ack, xf_slices_Equal_Ack_Ack_k0, hlen, e, heq]
        try (rw [heq] at e; simp [e])
    · have hk : i < k.length := by omega
      have hi' : (i : Int) < l.length := by omega
      have hk' : (i : Int) < k.length := by omega
      have hw := wrap_i i (by omega)
      have he : l[i] = k[i] := by
        have := Classical.not_not.1 hs
        rw [List.getElem?_eq_getElem hi, List.getElem?_eq_getElem hk] at this
        injection this
      simp [xf_slices_Equal_Ack_Ack_b0, xf_slices_Equal_Ack_Ack_k0, hi, hi', hk, hk', hw, he]
    · have hk : i < k.length := by omega
      have hi' : (i : Int) < l.length := by omega
      have hk' : (i : Int) < k.length := by omega
      have he : ¬ l[i] = k[i] := fun he => hs (by rw [List.getElem?_eq_getElem hi, List.getElem?_eq_getElem hk, he])
      have hb := eqb_Ack he
      simp [xf_slices_Equal_Ack_Ack_b0, hi, hi', hk, hk', hb]
    · simp [xf_slices_Equal_Ack_Ack_b0]
  · have hne : ¬ l = k := fun h => hlen (by rw [h])
    have hlen' : ¬ (l.length : Int) = k.length := by omega
    rw [runFn_succ]
    simp [T, xf_slices_Equal_Ack_Ack, hlen, hlen', hne]
theorem eq_slices_Equal_Mark_Mark (l k : List Mark) (hl : l.length ≤ 1048577) (hn : 1048577 < n) : runFn T n (d + 1) 87 [.dat (encMarks l), .dat (encMarks k)] [] = some (.dat (.bool (decide (l = k))), []) := by
  by_cases hlen : l.length = k.length
  · have main := loop_until (body := XCode.run (runFn T n d) n 0 xf_slices_Equal_Mark_Mark_b0) (head := headOf 0 xf_slices_Equal_Mark_Mark_k0) (fun i => ⟨[(0, .dat (encMarks l)), (1, .dat (encMarks k)), (12, .dat (di l.length)), (13, .dat (di i))], []⟩) l.length (.exit 0, ⟨[], []⟩) (fun i => l[i]? ≠ k[i]?) (fun _ => (.ret, ⟨[(4, .dat (.bool false))], []⟩))
      (fun i hi hs => nextK_some ?_) (fun i hi hs => ⟨?_, fun s h => by cases h⟩) ?_ (fun s h => by cases h) l.length n 0 (by omega) (by omega)
    · have h1 : (⟨[(0, .dat (encMarks l)), (1, .dat (encMarks k)), (12, .dat (di l.length)), (13, .dat (di (0 : Nat)))], []⟩ : St) = ⟨[(0, .dat (encMarks l)), (1, .dat (encMarks k)), (12, .dat (di l.length)), (13, .dat (di 0))], []⟩ := rfl
      rw [h1] at main
      rw [runFn_succ]
      rcases main with ⟨j, _, hj, hs, _, e⟩ | ⟨hs, e⟩
      · have hne : ¬ l = k := fun h => hs (by rw [h])
        simp [xf_slices_Equal_Mark_Mark_k0] at e
        simp [T, xf_slices_Equal_Mark_Mark, xf_slices_Equal_Mark_Mark_k0, hlen, e, hne]
        try (rw [hlen] at e; simp [e])
      · have heq := eq_of_get hlen hs
        simp [xf_slices_Equal_Mark_Mark_k0] at e
        simp [T, xf_slices_Equal_Mark_Mark, xf_slices_Equal_Mark_Mark_k0, hlen, e, heq]
        try (rw [heq] at e; simp [e])
    · have hk : i < k.length := by omega
      have hi' : (i : Int) < l.length := by omega
      have hk' : (i : Int) < k.length := by omega
      have hw := wrap_i i (by omega)
      have he : l[i] = k[i] := by
        have := Classical.not_not.1 hs
        rw [List.getElem?_eq_getElem hi, List.getElem?_eq_getElem hk] at this
        injection this
      simp [xf_slices_Equal_Mark_Mark_b0, xf_slices_Equal_Mark_Mark_k0, hi, hi', hk, hk', hw, he]
    · have hk : i < k.length := by omega
      have hi' : (i : Int) < l.length := by omega
      have hk' : (i : Int) < k.length := by omega
      have he : ¬ l[i] = k[i] := fun he => hs (by rw [List.getElem?_eq_getElem hi, List.getElem?_eq_getElem hk, he])
      have hb := eqb_Mark he
      simp [xf_slices_Equal_Mark_Mark_b0, hi, hi', hk, hk', hb]
    · simp [xf_slices_Equal_Mark_Mark_b0]
  · have hne : ¬ l = k := fun h => hlen (by rw [h])
    have hlen' : ¬ (l.length : Int) = k.length := by omega
    rw [runFn_succ]
    simp [T, xf_slices_Equal_Mark_Mark, hlen, hlen', hne]
end Go.Ax

namespace Go.Ax
set_option linter.all false
variable {n d : Nat}
set_option maxRecDepth 10000
set_option linter.unusedSimpArgs false
set_option maxHeartbeats 8000000

theorem Ballot_eq {x y : Ballot} (h1 : x.node = y.node) (h2 : x.draw.hi = y.draw.hi) (h3 : x.draw.lo = y.draw.lo) (h4 : x.last = y.last) (h5 : x.commit = y.commit) (h6 : x.log = y.log) : x = y := by
  have h7 := draw_eq2 h2 h3
  cases x; cases y
  simp_all
theorem eq_plain_SameBallots (l k : List Ballot) (hl : l.length ≤ 1048577) (hg : ∀ b ∈ l, b.log.length ≤ 1048577) (hn : 1048577 < n) : runFn T n (d + 2) 57 [.dat (encBals l), .dat (encBals k)] [] = some (.dat (.bool (decide (l = k))), []) := by
  by_cases hlen : l.length = k.length
  · have main := loop_until (body := XCode.run (runFn T n (d + 1)) n 0 xf_plain_SameBallots_b0) (head := headOf 0 xf_plain_SameBallots_k0) (fun i => ⟨[(0, .dat (encBals l)), (1, .dat (encBals k)), (5, .dat (di i))], []⟩) l.length (.exit 0, ⟨[], []⟩) (fun i => l[i]? ≠ k[i]?) (fun _ => (.ret, ⟨[(4, .dat (.bool false))], []⟩))
      (fun i hi hs => nextK_some ?_) (fun i hi hs => ⟨?_, fun s h => by cases h⟩) ?_ (fun s h => by cases h) l.length n 0 (by omega) (by omega)
    · rw [runFn_succ]
      rcases main with ⟨j, _, hj, hs, _, e⟩ | ⟨hs, e⟩
      · have hne : ¬ l = k := fun h => hs (by rw [h])
        simp [xf_plain_SameBallots_k0] at e
        simp [T, xf_plain_SameBallots, xf_plain_SameBallots_k0, hlen, e, hne]
      · have heq := eq_of_get hlen hs
        simp [xf_plain_SameBallots_k0] at e
        simp [T, xf_plain_SameBallots, xf_plain_SameBallots_k0, hlen, e, heq]
        try (rw [heq] at e; simp [e])
    · have hk : i < k.length := by omega
      have hi' : (i : Int) < l.length := by omega
      have hk' : (i : Int) < k.length := by omega
      have hw := wrap_i i (by omega)
      have he : l[i] = k[i] := by
        have := Classical.not_not.1 hs
        rw [List.getElem?_eq_getElem hi, List.getElem?_eq_getElem hk] at this
        injection this
      have hE := eq_plain_SameEntries (n := n) (d := d) k[i].log k[i].log (by rw [← he]; exact hg _ (List.getElem_mem hi)) hn
      simp at hE
      simp [xf_plain_SameBallots_b0, xf_plain_SameBallots_k0, hi, hi', hk, hk', hw, he, hE]
    · have hk : i < k.length := by omega
      have hi' : (i : Int) < l.length := by omega
      have hk' : (i : Int) < k.length := by omega
      have he : ¬ l[i] = k[i] := fun he => hs (by rw [List.getElem?_eq_getElem hi, List.getElem?_eq_getElem hk, he])
      have hE := eq_plain_SameEntries (n := n) (d := d) l[i].log k[i].log (hg _ (List.getElem_mem hi)) hn
      by_cases g1 : l[i].node = k[i].node
      · have g1' := eq_true g1
        cases g2 : (decide (l[i].draw.hi = k[i].draw.hi) && decide (l[i].draw.lo = k[i].draw.lo))
        · simp [xf_plain_SameBallots_b0, hi, hi', hk, hk', g1', g2]
        · by_cases g3 : l[i].last = k[i].last
          · have g3' := eq_true g3
            by_cases g4 : l[i].commit = k[i].commit
            · have g4' := eq_true g4
              have hlg : ¬ l[i].log = k[i].log := by
                intro h
                have g5 := g2
                simp only [decide_eq_true_eq, Bool.and_eq_true] at g5
                exact he (Ballot_eq g1 g5.1 g5.2 g3 g4 h)
              rw [decide_eq_false hlg] at hE
              simp [xf_plain_SameBallots_b0, hi, hi', hk, hk', hE, g1', g2, g3', g4']
            · have g4' := eq_false g4
              simp [xf_plain_SameBallots_b0, hi, hi', hk, hk', g1', g2, g3', g4']
          · have g3' := eq_false g3
            simp [xf_plain_SameBallots_b0, hi, hi', hk, hk', g1', g2, g3']
      · have g1' := eq_false g1
        simp [xf_plain_SameBallots_b0, hi, hi', hk, hk', g1']
    · simp [xf_plain_SameBallots_b0]
  · have hne : ¬ l = k := fun h => hlen (by rw [h])
    have hlen' : ¬ (l.length : Int) = k.length := by omega
    rw [runFn_succ]
    simp [T, xf_plain_SameBallots, hlen, hlen', hne]
theorem eq_Alike_1 (x y : Ballot) (hg : x.log.length ≤ 1048577) (hn : 1048577 < n) : runFn T n (d + 2) 81 [.dat (encBal x), .dat (encBal y)] [] = some (.dat (.bool (decide (x = y))), []) := by
  have hE := eq_slices_Equal_Entry_Entry (n := n) (d := d) x.log y.log hg hn
  rw [runFn_succ]
  cases hb : (decide (x.node = y.node) && (decide (x.draw.hi = y.draw.hi) && decide (x.draw.lo = y.draw.lo)) && decide (x.last = y.last) && decide (x.commit = y.commit))
  · have hne : ¬ x = y := fun h => by rw [h] at hb; simp at hb
    simp [T, xf_core_Alike_1, hb, hne]
  · by_cases hlg : x.log = y.log
    · have he : x = y := by
        simp only [Bool.and_eq_true, decide_eq_true_eq] at hb
        exact Ballot_eq hb.1.1.1 hb.1.1.2.1 hb.1.1.2.2 hb.1.2 hb.2 hlg
      subst he
      simp at hE
      simp [T, xf_core_Alike_1, hE]
    · have hne : ¬ x = y := fun h => hlg (by rw [h])
      rw [decide_eq_false hlg] at hE
      simp [T, xf_core_Alike_1, hb, hE, hne]
def encS_cells_Ballot (x : Ballot) : List Dat := [di x.node, du x.draw.hi, du x.draw.lo, di x.last, di x.commit, encLog x.log]
theorem eq_EqualFunc_Ballot (l k : List Ballot) (hl : l.length ≤ 1048577) (hg : ∀ b ∈ l, b.log.length ≤ 1048577) (hn : 1048577 < n) : runFn T n (d + 3) 80 [.dat (encBals l), .dat (encBals k), .fn (.func 81) [] []] [] = some (.dat (.bool (decide (l = k))), []) := by
  by_cases hlen : l.length = k.length
  · have main := loop_until (body := XCode.run (runFn T n (d + 2)) n 0 xf_slices_EqualFunc_Ballot_Ballot_Ballot_Ballot_b0) (head := headOf 0 xf_slices_EqualFunc_Ballot_Ballot_Ballot_Ballot_k0) (fun i => ⟨[(1, .dat (encBals k)), (2, .fn (.func 81) [] []), (15, .dat (encBals l)), (16, .dat (di l.length)), (17, .dat (di i))], []⟩) l.length (.exit 0, ⟨[], []⟩) (fun i => l[i]? ≠ k[i]?) (fun i => (.ret, ⟨[(6, .dat (.bool false))], [.box ((encS_cells_Ballot (l.getD i default)).map .dat), .box ((encS_cells_Ballot (k.getD i default)).map .dat)]⟩))
      (fun i hi hs => nextK_some ?_) (fun i hi hs => ⟨?_, fun s h => by cases h⟩) ?_ (fun s h => by cases h) l.length n 0 (by omega) (by omega)
    · rw [runFn_succ]
      rcases main with ⟨j, _, hj, hs, _, e⟩ | ⟨hs, e⟩
      · have hne : ¬ l = k := fun h => hs (by rw [h])
        simp [xf_slices_EqualFunc_Ballot_Ballot_Ballot_Ballot_k0] at e
        simp [T, xf_slices_EqualFunc_Ballot_Ballot_Ballot_Ballot, xf_slices_EqualFunc_Ballot_Ballot_Ballot_Ballot_k0, hlen, e, hne]
        try (rw [hlen] at e; simp [e])
      · have heq := eq_of_get hlen hs
        simp [xf_slices_EqualFunc_Ballot_Ballot_Ballot_Ballot_k0] at e
        simp [T, xf_slices_EqualFunc_Ballot_Ballot_Ballot_Ballot, xf_slices_EqualFunc_Ballot_Ballot_Ballot_Ballot_k0, hlen, e, heq]
        try (rw [heq] at e; simp [e])
    · have hk : i < k.length := by omega
      have hi' : (i : Int) < l.length := by omega
      have hk' : (i : Int) < k.length := by omega
      have hw := wrap_i i (by omega)
      have he : l[i] = k[i] := by
        have := Classical.not_not.1 hs
        rw [List.getElem?_eq_getElem hi, List.getElem?_eq_getElem hk] at this
        injection this
      have hE := eq_Alike_1 (n := n) (d := d) k[i] k[i] (by rw [← he]; exact hg _ (List.getElem_mem hi)) hn
      simp at hE
      simp [xf_slices_EqualFunc_Ballot_Ballot_Ballot_Ballot_b0, xf_slices_EqualFunc_Ballot_Ballot_Ballot_Ballot_k0, hi, hi', hk, hk', hw, he, hE]
    · have hk : i < k.length := by omega
      have hi' : (i : Int) < l.length := by omega
      have hk' : (i : Int) < k.length := by omega
      have he : ¬ l[i] = k[i] := fun he => hs (by rw [List.getElem?_eq_getElem hi, List.getElem?_eq_getElem hk, he])
      have hE := eq_Alike_1 (n := n) (d := d) l[i] k[i] (hg _ (List.getElem_mem hi)) hn
      rw [decide_eq_false he] at hE
      simp [xf_slices_EqualFunc_Ballot_Ballot_Ballot_Ballot_b0, encS_cells_Ballot, hi, hi', hk, hk', hE]
    · simp [xf_slices_EqualFunc_Ballot_Ballot_Ballot_Ballot_b0]
  · have hne : ¬ l = k := fun h => hlen (by rw [h])
    have hlen' : ¬ (l.length : Int) = k.length := by omega
    rw [runFn_succ]
    simp [T, xf_slices_EqualFunc_Ballot_Ballot_Ballot_Ballot, hlen, hlen', hne]
theorem Answer_eq {x y : Answer} (h1 : x.node = y.node) (h2 : x.draw.hi = y.draw.hi) (h3 : x.draw.lo = y.draw.lo) (h4 : x.view = y.view) (h5 : x.commit = y.commit) (h6 : x.log = y.log) : x = y := by
  have h7 := draw_eq2 h2 h3
  cases x; cases y
  simp_all
theorem eq_plain_SameAnswers (l k : List Answer) (hl : l.length ≤ 1048577) (hg : ∀ b ∈ l, b.log.length ≤ 1048577) (hn : 1048577 < n) : runFn T n (d + 2) 58 [.dat (encAnss l), .dat (encAnss k)] [] = some (.dat (.bool (decide (l = k))), []) := by
  by_cases hlen : l.length = k.length
  · have main := loop_until (body := XCode.run (runFn T n (d + 1)) n 0 xf_plain_SameAnswers_b0) (head := headOf 0 xf_plain_SameAnswers_k0) (fun i => ⟨[(0, .dat (encAnss l)), (1, .dat (encAnss k)), (5, .dat (di i))], []⟩) l.length (.exit 0, ⟨[], []⟩) (fun i => l[i]? ≠ k[i]?) (fun _ => (.ret, ⟨[(4, .dat (.bool false))], []⟩))
      (fun i hi hs => nextK_some ?_) (fun i hi hs => ⟨?_, fun s h => by cases h⟩) ?_ (fun s h => by cases h) l.length n 0 (by omega) (by omega)
    · rw [runFn_succ]
      rcases main with ⟨j, _, hj, hs, _, e⟩ | ⟨hs, e⟩
      · have hne : ¬ l = k := fun h => hs (by rw [h])
        simp [xf_plain_SameAnswers_k0] at e
        simp [T, xf_plain_SameAnswers, xf_plain_SameAnswers_k0, hlen, e, hne]
      · have heq := eq_of_get hlen hs
        simp [xf_plain_SameAnswers_k0] at e
        simp [T, xf_plain_SameAnswers, xf_plain_SameAnswers_k0, hlen, e, heq]
        try (rw [heq] at e; simp [e])
    · have hk : i < k.length := by omega
      have hi' : (i : Int) < l.length := by omega
      have hk' : (i : Int) < k.length := by omega
      have hw := wrap_i i (by omega)
      have he : l[i] = k[i] := by
        have := Classical.not_not.1 hs
        rw [List.getElem?_eq_getElem hi, List.getElem?_eq_getElem hk] at this
        injection this
      have hE := eq_plain_SameEntries (n := n) (d := d) k[i].log k[i].log (by rw [← he]; exact hg _ (List.getElem_mem hi)) hn
      simp at hE
      simp [xf_plain_SameAnswers_b0, xf_plain_SameAnswers_k0, hi, hi', hk, hk', hw, he, hE]
    · have hk : i < k.length := by omega
      have hi' : (i : Int) < l.length := by omega
      have hk' : (i : Int) < k.length := by omega
      have he : ¬ l[i] = k[i] := fun he => hs (by rw [List.getElem?_eq_getElem hi, List.getElem?_eq_getElem hk, he])
      have hE := eq_plain_SameEntries (n := n) (d := d) l[i].log k[i].log (hg _ (List.getElem_mem hi)) hn
      by_cases g1 : l[i].node = k[i].node
      · have g1' := eq_true g1
        cases g2 : (decide (l[i].draw.hi = k[i].draw.hi) && decide (l[i].draw.lo = k[i].draw.lo))
        · simp [xf_plain_SameAnswers_b0, hi, hi', hk, hk', g1', g2]
        · by_cases g3 : l[i].view = k[i].view
          · have g3' := eq_true g3
            by_cases g4 : l[i].commit = k[i].commit
            · have g4' := eq_true g4
              have hlg : ¬ l[i].log = k[i].log := by
                intro h
                have g5 := g2
                simp only [decide_eq_true_eq, Bool.and_eq_true] at g5
                exact he (Answer_eq g1 g5.1 g5.2 g3 g4 h)
              rw [decide_eq_false hlg] at hE
              simp [xf_plain_SameAnswers_b0, hi, hi', hk, hk', hE, g1', g2, g3', g4']
            · have g4' := eq_false g4
              simp [xf_plain_SameAnswers_b0, hi, hi', hk, hk', g1', g2, g3', g4']
          · have g3' := eq_false g3
            simp [xf_plain_SameAnswers_b0, hi, hi', hk, hk', g1', g2, g3']
      · have g1' := eq_false g1
        simp [xf_plain_SameAnswers_b0, hi, hi', hk, hk', g1']
    · simp [xf_plain_SameAnswers_b0]
  · have hne : ¬ l = k := fun h => hlen (by rw [h])
    have hlen' : ¬ (l.length : Int) = k.length := by omega
    rw [runFn_succ]
    simp [T, xf_plain_SameAnswers, hlen, hlen', hne]
theorem eq_Alike_2 (x y : Answer) (hg : x.log.length ≤ 1048577) (hn : 1048577 < n) : runFn T n (d + 2) 84 [.dat (encAns x), .dat (encAns y)] [] = some (.dat (.bool (decide (x = y))), []) := by
  have hE := eq_slices_Equal_Entry_Entry (n := n) (d := d) x.log y.log hg hn
  rw [runFn_succ]
  cases hb : (decide (x.node = y.node) && (decide (x.draw.hi = y.draw.hi) && decide (x.draw.lo = y.draw.lo)) && decide (x.view = y.view) && decide (x.commit = y.commit))
  · have hne : ¬ x = y := fun h => by rw [h] at hb; simp at hb
    simp [T, xf_core_Alike_2, hb, hne]
  · by_cases hlg : x.log = y.log
    · have he : x = y := by
        simp only [Bool.and_eq_true, decide_eq_true_eq] at hb
        exact Answer_eq hb.1.1.1 hb.1.1.2.1 hb.1.1.2.2 hb.1.2 hb.2 hlg
      subst he
      simp at hE
      simp [T, xf_core_Alike_2, hE]
    · have hne : ¬ x = y := fun h => hlg (by rw [h])
      rw [decide_eq_false hlg] at hE
      simp [T, xf_core_Alike_2, hb, hE, hne]
def encS_cells_Answer (x : Answer) : List Dat := [di x.node, du x.draw.hi, du x.draw.lo, di x.view, di x.commit, encLog x.log]
theorem eq_EqualFunc_Answer (l k : List Answer) (hl : l.length ≤ 1048577) (hg : ∀ b ∈ l, b.log.length ≤ 1048577) (hn : 1048577 < n) : runFn T n (d + 3) 83 [.dat (encAnss l), .dat (encAnss k), .fn (.func 84) [] []] [] = some (.dat (.bool (decide (l = k))), []) := by
  by_cases hlen : l.length = k.length
  · have main := loop_until (body := XCode.run (runFn T n (d + 2)) n 0 xf_slices_EqualFunc_Answer_Answer_Answer_Answer_b0) (head := headOf 0 xf_slices_EqualFunc_Answer_Answer_Answer_Answer_k0) (fun i => ⟨[(1, .dat (encAnss k)), (2, .fn (.func 84) [] []), (15, .dat (encAnss l)), (16, .dat (di l.length)), (17, .dat (di i))], []⟩) l.length (.exit 0, ⟨[], []⟩) (fun i => l[i]? ≠ k[i]?) (fun i => (.ret, ⟨[(6, .dat (.bool false))], [.box ((encS_cells_Answer (l.getD i default)).map .dat), .box ((encS_cells_Answer (k.getD i default)).map .dat)]⟩))
      (fun i hi hs => nextK_some ?_) (fun i hi hs => ⟨?_, fun s h => by cases h⟩) ?_ (fun s h => by cases h) l.length n 0 (by omega) (by omega)
    · rw [runFn_succ]
      rcases main with ⟨j, _, hj, hs, _, e⟩ | ⟨hs, e⟩
      · have hne : ¬ l = k := fun h => hs (by rw [h])
        simp [xf_slices_EqualFunc_Answer_Answer_Answer_Answer_k0] at e
        simp [T, xf_slices_EqualFunc_Answer_Answer_Answer_Answer, xf_slices_EqualFunc_Answer_Answer_Answer_Answer_k0, hlen, e, hne]
        try (rw [hlen] at e; simp [e])
      · have heq := eq_of_get hlen hs
        simp [xf_slices_EqualFunc_Answer_Answer_Answer_Answer_k0] at e
        simp [T, xf_slices_EqualFunc_Answer_Answer_Answer_Answer, xf_slices_EqualFunc_Answer_Answer_Answer_Answer_k0, hlen, e, heq]
        try (rw [heq] at e; simp [e])
    · have hk : i < k.length := by omega
      have hi' : (i : Int) < l.length := by omega
      have hk' : (i : Int) < k.length := by omega
      have hw := wrap_i i (by omega)
      have he : l[i] = k[i] := by
        have := Classical.not_not.1 hs
        rw [List.getElem?_eq_getElem hi, List.getElem?_eq_getElem hk] at this
        injection this
      have hE := eq_Alike_2 (n := n) (d := d) k[i] k[i] (by rw [← he]; exact hg _ (List.getElem_mem hi)) hn
      simp at hE
      simp [xf_slices_EqualFunc_Answer_Answer_Answer_Answer_b0, xf_slices_EqualFunc_Answer_Answer_Answer_Answer_k0, hi, hi', hk, hk', hw, he, hE]
    · have hk : i < k.length := by omega
      have hi' : (i : Int) < l.length := by omega
      have hk' : (i : Int) < k.length := by omega
      have he : ¬ l[i] = k[i] := fun he => hs (by rw [List.getElem?_eq_getElem hi, List.getElem?_eq_getElem hk, he])
      have hE := eq_Alike_2 (n := n) (d := d) l[i] k[i] (hg _ (List.getElem_mem hi)) hn
      rw [decide_eq_false he] at hE
      simp [xf_slices_EqualFunc_Answer_Answer_Answer_Answer_b0, encS_cells_Answer, hi, hi', hk, hk', hE]
    · simp [xf_slices_EqualFunc_Answer_Answer_Answer_Answer_b0]
  · have hne : ¬ l = k := fun h => hlen (by rw [h])
    have hlen' : ¬ (l.length : Int) = k.length := by omega
    rw [runFn_succ]
    simp [T, xf_slices_EqualFunc_Answer_Answer_Answer_Answer, hlen, hlen', hne]
theorem state_eq {s t : State} (h1 : s.self = t.self) (h2 : s.status = t.status) (h3 : s.view = t.view) (h4 : s.last = t.last) (h5 : s.commit = t.commit) (h6 : s.idle = t.idle) (h7 : s.log = t.log) (h8 : s.vector = t.vector) (h9 : s.acks = t.acks) (h10 : s.marks = t.marks) (h11 : s.ballots = t.ballots) (h12 : s.answers = t.answers) : s = t := by
  cases s; cases t
  simp_all
theorem eq_plain_SameState (s t : State) (hs : Small s) (hn : 1048577 < n) : runFn T n (d + 3) 14 [.dat (encS s), .dat (encS t)] [] = some (.dat (.bool (decide (s = t))), []) := by
  have hlog := eq_plain_SameEntries (n := n) (d := d + 1) s.log t.log hs.log hn
  have hvector := eq_plain_SameVector (n := n) (d := d + 1) s.vector t.vector hs.vector hn
  have hacks := eq_plain_sameAcks (n := n) (d := d + 1) s.acks t.acks hs.acks hn
  have hmarks := eq_plain_sameMarks (n := n) (d := d + 1) s.marks t.marks hs.marks hn
  have hballots := eq_plain_SameBallots (n := n) (d := d) s.ballots t.ballots hs.ballots hs.blogs hn
  have hanswers := eq_plain_SameAnswers (n := n) (d := d) s.answers t.answers hs.answers hs.alogs hn
  rw [runFn_succ]
  cases hb : (decide (s.self = t.self) && decide (s.status = t.status) && decide (s.view = t.view) && decide (s.last = t.last) && decide (s.commit = t.commit) && decide (s.idle = t.idle))
  · have hne : ¬ s = t := fun h => by rw [h] at hb; simp at hb
    simp [T, xf_plain_SameState, hb, hne]
  · have sc := hb
    simp only [Bool.and_eq_true, decide_eq_true_eq] at sc
    obtain ⟨⟨⟨⟨⟨c1, c2⟩, c3⟩, c4⟩, c5⟩, c6⟩ := sc
    by_cases qlog : s.log = t.log
    · rw [decide_eq_true qlog] at hlog
      by_cases qvector : s.vector = t.vector
      · rw [decide_eq_true qvector] at hvector
        by_cases qacks : s.acks = t.acks
        · rw [decide_eq_true qacks] at hacks
          by_cases qmarks : s.marks = t.marks
          · rw [decide_eq_true qmarks] at hmarks
            by_cases qballots : s.ballots = t.ballots
            · rw [decide_eq_true qballots] at hballots
              by_cases qanswers : s.answers = t.answers
              · rw [decide_eq_true qanswers] at hanswers
                have he : s = t := state_eq c1 c2 c3 c4 c5 c6 qlog qvector qacks qmarks qballots qanswers
                subst he
                skip
                skip
                skip
                skip
                skip
                skip
                simp [T, xf_plain_SameState, hlog, hvector, hacks, hmarks, hballots, hanswers]
              · rw [decide_eq_false qanswers] at hanswers
                have hne : ¬ s = t := fun h => qanswers (by rw [h])
                simp [T, xf_plain_SameState, hb, hne, hlog, hvector, hacks, hmarks, hballots, hanswers]
            · rw [decide_eq_false qballots] at hballots
              have hne : ¬ s = t := fun h => qballots (by rw [h])
              simp [T, xf_plain_SameState, hb, hne, hlog, hvector, hacks, hmarks, hballots]
          · rw [decide_eq_false qmarks] at hmarks
            have hne : ¬ s = t := fun h => qmarks (by rw [h])
            simp [T, xf_plain_SameState, hb, hne, hlog, hvector, hacks, hmarks]
        · rw [decide_eq_false qacks] at hacks
          have hne : ¬ s = t := fun h => qacks (by rw [h])
          simp [T, xf_plain_SameState, hb, hne, hlog, hvector, hacks]
      · rw [decide_eq_false qvector] at hvector
        have hne : ¬ s = t := fun h => qvector (by rw [h])
        simp [T, xf_plain_SameState, hb, hne, hlog, hvector]
    · rw [decide_eq_false qlog] at hlog
      have hne : ¬ s = t := fun h => qlog (by rw [h])
      simp [T, xf_plain_SameState, hb, hne, hlog]
theorem eq_core_Alike (s t : State) (hs : Small s) (hn : 1048577 < n) : runFn T n (d + 4) 27 [.dat (encS s), .dat (encS t)] [] = some (.dat (.bool (decide (s = t))), []) := by
  have hlog := eq_slices_Equal_Entry_Entry (n := n) (d := d + 2) s.log t.log hs.log hn
  have hvector := eq_slices_Equal_Vector_Draw (n := n) (d := d + 2) s.vector t.vector hs.vector hn
  have hacks := eq_slices_Equal_Ack_Ack (n := n) (d := d + 2) s.acks t.acks hs.acks hn
  have hmarks := eq_slices_Equal_Mark_Mark (n := n) (d := d + 2) s.marks t.marks hs.marks hn
  have hballots := eq_EqualFunc_Ballot (n := n) (d := d) s.ballots t.ballots hs.ballots hs.blogs hn
  have hanswers := eq_EqualFunc_Answer (n := n) (d := d) s.answers t.answers hs.answers hs.alogs hn
  rw [runFn_succ]
  cases hb : (!decide (s.self = t.self) || !decide (s.status = t.status) || !decide (s.view = t.view) || !decide (s.last = t.last) || !decide (s.commit = t.commit) || !decide (s.idle = t.idle))
  · have sc := hb
    simp only [Bool.or_eq_false_iff, Bool.not_eq_false', decide_eq_true_eq] at sc
    obtain ⟨⟨⟨⟨⟨c1, c2⟩, c3⟩, c4⟩, c5⟩, c6⟩ := sc
    by_cases qballots : s.ballots = t.ballots
    · rw [decide_eq_true qballots] at hballots
      by_cases qanswers : s.answers = t.answers
      · rw [decide_eq_true qanswers] at hanswers
        by_cases qlog : s.log = t.log
        · rw [decide_eq_true qlog] at hlog
          by_cases qvector : s.vector = t.vector
          · rw [decide_eq_true qvector] at hvector
            by_cases qacks : s.acks = t.acks
            · rw [decide_eq_true qacks] at hacks
              by_cases qmarks : s.marks = t.marks
              · rw [decide_eq_true qmarks] at hmarks
                have he : s = t := state_eq c1 c2 c3 c4 c5 c6 qlog qvector qacks qmarks qballots qanswers
                subst he
                skip
                skip
                skip
                skip
                skip
                skip
                simp [T, xf_core_Alike, hballots, hanswers, hlog, hvector, hacks, hmarks]
              · rw [decide_eq_false qmarks] at hmarks
                have hne : ¬ s = t := fun h => qmarks (by rw [h])
                simp [T, xf_core_Alike, hb, hne, hballots, hanswers, hlog, hvector, hacks, hmarks]
            · rw [decide_eq_false qacks] at hacks
              have hne : ¬ s = t := fun h => qacks (by rw [h])
              simp [T, xf_core_Alike, hb, hne, hballots, hanswers, hlog, hvector, hacks, hmarks]
          · rw [decide_eq_false qvector] at hvector
            have hne : ¬ s = t := fun h => qvector (by rw [h])
            simp [T, xf_core_Alike, hb, hne, hballots, hanswers, hlog, hvector, hacks, hmarks]
        · rw [decide_eq_false qlog] at hlog
          have hne : ¬ s = t := fun h => qlog (by rw [h])
          simp [T, xf_core_Alike, hb, hne, hballots, hanswers, hlog, hvector, hacks, hmarks]
      · rw [decide_eq_false qanswers] at hanswers
        have hne : ¬ s = t := fun h => qanswers (by rw [h])
        simp [T, xf_core_Alike, hb, hne, hballots, hanswers, hlog, hvector, hacks, hmarks]
    · rw [decide_eq_false qballots] at hballots
      have hne : ¬ s = t := fun h => qballots (by rw [h])
      simp [T, xf_core_Alike, hb, hne, hballots, hanswers, hlog, hvector, hacks, hmarks]
  · have hne : ¬ s = t := fun h => by rw [h] at hb; simp at hb
    simp [T, xf_core_Alike, hb, hne]
end Go.Ax
