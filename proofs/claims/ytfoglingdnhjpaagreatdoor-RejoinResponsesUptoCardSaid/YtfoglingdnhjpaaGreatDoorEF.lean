/-
  The ledger.
-/
import Derived.Test.YtfoglingdnhjpaaGreatDoorEA
import Derived.Test.YtfoglingdnhjpaaGreatDoorED
namespace Go.Ax
attribute [simp] evalOp.eq_39
set_option linter.all false
variable {n d : Nat}
set_option maxRecDepth 10000
set_option maxHeartbeats 4000000
abbrev encLd (L : List (Int × ByteArray)) : List (Int × Dat) := L.map (fun x => (x.1, .agg [.str x.2]))
def lookL : List (Int × ByteArray) → Int → Option ByteArray
 | [], _ => none
 | (k, v) :: r, n => if k = n then some v else lookL r n
theorem mlook_enc (L : List (Int × ByteArray)) (k : Int) : mlook (encLd L) k = (lookL L k).map (fun v => .agg [.str v]) := by
 induction L with
 | nil => rfl
 | cons x r ih =>
  obtain ⟨a, v⟩ := x
  simp only [List.map_cons, mlook, lookL]
  split
  ·rfl
  ·exact ih
def countL (L : List (Int × ByteArray)) : Nat := mcount (encLd L)
def wouldR (L : List (Int × ByteArray)) (nx : Int) (o : LOp) : Res :=
 if o.kind = 1 then (match lookL L o.slot with | some v => ⟨2, o.slot, v⟩ | none => ⟨1, o.slot, o.value⟩)
 else if o.kind = 2 then (if nx = 1024 then ⟨3, 0, ByteArray.empty⟩ else ⟨1, nx, o.value⟩)
 else if o.kind = 3 then (match lookL L o.slot with | some v => ⟨4, o.slot, v⟩ | none => ⟨5, o.slot, ByteArray.empty⟩)
 else ⟨6, countL L, ByteArray.empty⟩
theorem op_cases {o : LOp} (h : opErr o = 0) : (o.kind = 1 ∧ 0 ≤ o.slot ∧ o.slot < 1024) ∨ (o.kind = 2 ∧ o.slot = 0) ∨ (o.kind = 3 ∧ 0 ≤ o.slot ∧ o.slot < 1024) ∨ (o.kind = 4 ∧ o.slot = 0) := by
 unfold opErr at h
 split at h
 ·split at h
  ·omega
  ·split at h <;> omega
 ·split at h
  ·split at h
   ·omega
   ·split at h <;> omega
  ·omega
def doL (L : List (Int × ByteArray)) (nx : Int) (o : LOp) : List (Int × ByteArray) := if (wouldR L nx o).code = 1 then ((wouldR L nx o).slot, (wouldR L nx o).value) :: L else L
def doN (L : List (Int × ByteArray)) (nx : Int) (o : LOp) : Int := if (wouldR L nx o).code = 1 then max nx ((wouldR L nx o).slot + 1) else nx
theorem would_slot {L : List (Int × ByteArray)} {nx : Int} {o : LOp} (h : opErr o = 0) (hx : 0 ≤ nx ∧ nx ≤ 1024) (hc : (wouldR L nx o).code = 1) : 0 ≤ (wouldR L nx o).slot ∧ (wouldR L nx o).slot < 1024 := by
 have := op_cases h
 unfold wouldR at hc ⊢
 split
 ·split <;> (simp only; omega)
 ·rename_i h1
  rw [if_neg h1] at hc
  split
  ·rename_i h2
   rw [if_pos h2] at hc
   split
   ·simp
   ·simp only; omega
  ·rename_i h2
   rw [if_neg h2] at hc
   split
   ·rename_i h3
    rw [if_pos h3] at hc
    split <;> (simp only; omega)
   ·rename_i h3
    rw [if_neg h3] at hc
    simp at hc
end Go.Ax
namespace Go.Ax
set_option linter.all false
variable {n d : Nat}
set_option maxRecDepth 10000
set_option maxHeartbeats 4000000
structure Led where
 rows : List Row
 L : List (Int × ByteArray)
 nx : Int
def stepR (a : Led) (e : Ent) : Led := ⟨a.rows ++ [⟨e.client, e.number, a.rows.length + 1, true, wouldR a.L a.nx e.op⟩], doL a.L a.nx e.op, doN a.L a.nx e.op⟩
structure LedOk (k : Nat) (a : Led) : Prop where
 rows : a.rows.length = k
 len : a.L.length ≤ k
 nx : 0 ≤ a.nx ∧ a.nx ≤ 1024
theorem LedOk.step {k : Nat} {a : Led} {e : Ent} (h : LedOk k a) (he : opErr e.op = 0) : LedOk (k + 1) (stepR a e) := by
 obtain ⟨h1, h2, h3⟩ := h
 refine ⟨by simp [stepR, h1], ?_, ?_⟩
 ·simp only [stepR, doL]
  split
  ·simp only [List.length_cons]; omega
  ·omega
 ·simp only [stepR, doN]
  split
  ·rename_i hc
   have := would_slot he h3 hc
   omega
  ·exact h3
end Go.Ax
namespace Go.Ax
set_option linter.all false
variable {n d : Nat}
set_option maxRecDepth 10000
set_option maxHeartbeats 4000000
abbrev Cell := Int × ByteArray
def putG (c : Cell) (a : List Cell × Bool) (x : Cell) : List Cell × Bool := if a.2 = false ∧ c.1 < x.1 then (a.1 ++ [c, x], true) else (a.1 ++ [x], a.2)
def putC (l : List Cell) (c : Cell) : List Cell := if (l.foldl (putG c) ([], false)).2 then (l.foldl (putG c) ([], false)).1 else (l.foldl (putG c) ([], false)).1 ++ [c]
def maxG (s : Int) (x : Cell) : Int := if s ≤ x.1 then x.1 + 1 else s
def maxS (l : List Cell) : Int := l.foldl maxG 0
def refDo (l : List Cell) (o : LOp) : List Cell × Res :=
 if o.kind = 1 then (match lookL l o.slot with | some v => (l, ⟨2, o.slot, v⟩) | none => (putC l (o.slot, o.value), ⟨1, o.slot, o.value⟩))
 else if o.kind = 2 then (if 1024 ≤ maxS l then (l, ⟨3, 0, ByteArray.empty⟩) else (putC l (maxS l, o.value), ⟨1, maxS l, o.value⟩))
 else if o.kind = 3 then (match lookL l o.slot with | some v => (l, ⟨4, o.slot, v⟩) | none => (l, ⟨5, o.slot, ByteArray.empty⟩))
 else (l, ⟨6, l.length, ByteArray.empty⟩)
end Go.Ax
namespace Go.Ax
set_option linter.all false
variable {n d : Nat}
set_option maxRecDepth 10000
set_option maxHeartbeats 4000000
theorem putC_split (l : List Cell) (c : Cell) : ∃ X Y, l = X ++ Y ∧ putC l c = X ++ c :: Y := by
 have key : ∀ (l : List Cell) (o : List Cell), (∃ X Y, l = X ++ Y ∧ (l.foldl (putG c) (o, false)) = (o ++ X ++ c :: Y, true)) ∨ l.foldl (putG c) (o, false) = (o ++ l, false) := by
  have done : ∀ (l o : List Cell), l.foldl (putG c) (o, true) = (o ++ l, true) := by
   intro l
   induction l with
   | nil => intro o; simp
   | cons x r ih => intro o; simp [putG, ih]
  intro l
  induction l with
  | nil => intro o; right; simp
  | cons x r ih =>
   intro o
   by_cases hc : c.1 < x.1
   ·left
    refine ⟨[], x :: r, rfl, ?_⟩
    simp [putG, hc, done]
   ·have hs : putG c (o, false) x = (o ++ [x], false) := by simp [putG, hc]
    rw [List.foldl_cons, hs]
    rcases ih (o ++ [x]) with ⟨X, Y, h1, h2⟩ | h
    ·left; exact ⟨x :: X, Y, by rw [h1]; rfl, by rw [h2]; simp⟩
    ·right; rw [h]; simp
 unfold putC
 rcases key l [] with ⟨X, Y, h1, h2⟩ | h
 ·exact ⟨X, Y, h1, by rw [h2]; simp⟩
 ·exact ⟨l, [], by simp, by rw [h]; simp⟩
theorem look_append : ∀ (X Y : List Cell) (k : Int), lookL (X ++ Y) k = (lookL X k).or (lookL Y k)
 | [], _, _ => by simp [lookL]
 | (a, v) :: r, Y, k => by
  simp only [List.cons_append, lookL]
  by_cases h : a = k
  ·simp [h]
  ·simp [h, look_append r Y k]
theorem maxG_max (s : Int) (x : Cell) : maxG s x = max s (x.1 + 1) := by unfold maxG; split <;> omega
theorem maxS_from : ∀ (l : List Cell) (s t : Int), l.foldl maxG (max s t) = max (l.foldl maxG s) t
 | [], _, _ => rfl
 | x :: r, s, t => by
  simp only [List.foldl_cons, maxG_max]
  rw [show max (max s t) (x.1 + 1) = max (max s (x.1 + 1)) t by omega]
  exact maxS_from r _ t
theorem maxS_above : ∀ (l : List Cell) (s : Int), s ≤ l.foldl maxG s ∧ ∀ x ∈ l, x.1 < l.foldl maxG s
 | [], s => ⟨Int.le_refl _, by simp⟩
 | x :: r, s => by
  obtain ⟨h1, h2⟩ := maxS_above r (maxG s x)
  simp only [List.foldl_cons]
  rw [maxG_max] at h1 h2 ⊢
  refine ⟨by omega, fun y hy => ?_⟩
  rcases List.mem_cons.1 hy with rfl | hy
  ·omega
  ·exact h2 y hy
theorem look_none : ∀ (l : List Cell) (k : Int), (∀ x ∈ l, x.1 ≠ k) → lookL l k = none
 | [], _, _ => rfl
 | (a, v) :: r, k, h => by
  simp only [lookL]
  rw [if_neg (h (a, v) (by simp))]
  exact look_none r k (fun x hx => h x (by simp [hx]))
structure RelC (A : List Cell) (nx : Int) (cs : List Cell) : Prop where
 look : ∀ k, lookL cs k = lookL A k
 len : cs.length = countL A
 mx : maxS cs = nx
 bnd : ∀ x ∈ cs, 0 ≤ x.1 ∧ x.1 < 1024
theorem RelC.put {A cs : List Cell} {nx k : Int} {v : ByteArray} (h : RelC A nx cs) (hk : 0 ≤ k ∧ k < 1024) (hl : lookL A k = none) : RelC ((k, v) :: A) (max nx (k + 1)) (putC cs (k, v)) := by
 obtain ⟨X, Y, rfl, hp⟩ := putC_split cs (k, v)
 have hl' := h.look k
 rw [hl, look_append] at hl'
 rw [hp]
 refine ⟨fun j => ?_, ?_, ?_, fun x hx => ?_⟩
 ·have := h.look j
  rw [look_append] at this
  rw [look_append]
  simp only [lookL]
  by_cases hj : k = j
  ·subst hj
   rw [if_pos rfl, if_pos rfl]
   cases hX : lookL X k with
   | none => rfl
   | some w => rw [hX] at hl'; simp at hl'
  ·rw [if_neg hj, if_neg hj]
   exact this
 ·have := h.len
  have hm := mlook_enc A k
  rw [hl] at hm
  simp only [List.length_append, List.length_cons, countL, encLd, List.map_cons, mcount] at this hm ⊢
  rw [hm]
  simp
  omega
 ·have := h.mx
  unfold maxS at this ⊢
  rw [List.foldl_append] at this ⊢
  rw [List.foldl_cons, maxG_max, maxS_from, this]
 ·rcases List.mem_append.1 hx with hx | hx
  ·exact h.bnd x (List.mem_append.2 (.inl hx))
  ·rcases List.mem_cons.1 hx with rfl | hx
   ·exact hk
   ·exact h.bnd x (List.mem_append.2 (.inr hx))
theorem RelC.step {A cs : List Cell} {nx : Int} {o : LOp} (h : RelC A nx cs) (ho : opErr o = 0) (hn : 0 ≤ nx ∧ nx ≤ 1024) : (refDo cs o).2 = wouldR A nx o ∧ RelC (doL A nx o) (doN A nx o) (refDo cs o).1 := by
 have hc := op_cases ho
 unfold doL doN refDo wouldR
 rw [h.look, h.mx, h.len]
 by_cases k1 : o.kind = 1
 ·simp only [k1, if_true]
  cases hl : lookL A o.slot with
  | none => exact ⟨by simp, by simp only [if_true]; exact h.put (by omega) hl⟩
  | some v => exact ⟨by simp, by simp; exact h⟩
 ·simp only [k1, if_false]
  by_cases k2 : o.kind = 2
  ·simp only [k2, if_true]
   by_cases hf : nx = 1024
   ·simp only [hf, if_true, Int.le_refl]
    exact ⟨by simp, by simp; rw [← hf]; exact h⟩
   ·have : ¬ 1024 ≤ nx := by omega
    simp only [hf, if_false, this, if_true]
    refine ⟨trivial, h.put (by omega) ?_⟩
    rw [← h.look]
    refine look_none cs nx (fun x hx => ?_)
    have := (maxS_above cs 0).2 x hx
    have hm := h.mx
    unfold maxS at hm
    omega
  ·simp only [k2, if_false]
   by_cases k3 : o.kind = 3
   ·simp only [k3, if_true]
    cases hl : lookL A o.slot with
    | none => exact ⟨by simp, by simp; exact h⟩
    | some v => exact ⟨by simp, by simp; exact h⟩
   ·simp only [k3, if_false]
    exact ⟨trivial, by simp; exact h⟩
def stepC (a : List Cell × List Res) (o : LOp) : List Cell × List Res := ((refDo a.1 o).1, a.2 ++ [(refDo a.1 o).2])
structure RepOk (a : Led) (b : List Cell × List Res) : Prop where
 rel : RelC a.L a.nx b.1
 res : a.rows.map (·.result) = b.2
theorem RepOk.step {k : Nat} {a : Led} {b : List Cell × List Res} {e : Ent} (h : RepOk a b) (ho : LedOk k a) (he : opErr e.op = 0) : RepOk (stepR a e) (stepC b e.op) := by
 obtain ⟨h1, h2⟩ := h.rel.step he ho.nx
 refine ⟨h2, ?_⟩
 simp only [stepR, stepC, List.map_append, List.map_cons, List.map_nil, h.res, h1]
end Go.Ax
namespace Go.Ax
set_option linter.all false
variable {n d : Nat}
set_option maxRecDepth 10000
set_option maxHeartbeats 4000000
end Go.Ax
namespace Go.Ax
set_option linter.all false
variable {n d : Nat}
set_option maxRecDepth 10000
set_option maxHeartbeats 4000000
end Go.Ax
namespace Go.Ax
set_option linter.all false
variable {n d : Nat}
set_option maxRecDepth 10000
set_option maxHeartbeats 4000000
end Go.Ax
namespace Go.Ax
set_option linter.all false
variable {n d : Nat}
set_option maxRecDepth 10000
set_option maxHeartbeats 4000000
end Go.Ax
namespace Go.Ax
set_option linter.all false
variable {n d : Nat}
set_option maxRecDepth 10000
set_option maxHeartbeats 4000000
end Go.Ax
