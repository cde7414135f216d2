/-
  Ax, text 18: what has come about since a call was entered.
-/
import Derived.Test.YtfoglingdnhjpaaGreatDoorXFrame
namespace Go.Ax
set_option linter.all false
set_option linter.unusedSectionVars false
open Go.RowKit
variable [Gls]
variable {C0 C C' : Ctx} {w0 w w' : World} {H0 H H' : List Blk} {Hp : Nat → Option Blk} {wr : List Nat}
structure Cum (C0 : Ctx) (w0 : World) (H0 : List Blk) (C : Ctx) (w : World) (Hp : Nat → Option Blk) : Prop where
 keeps : Keeps C0 C w0 w
 os : w.os = w0.os
 tape : w.tape = w0.tape
 output : w.output = w0.output
 size : w0.heap.size ≤ w.heap.size
 frame : ∀ k, k < w0.heap.size → w.heap[k]? = w0.heap[k]? ∨ ∃ i b, H0[i]? = some b ∧ Writes b (C0.ρ i) k
 newF : ∀ k, C.Fz k → C0.Fz k ∨ w0.heap.size ≤ k ∨ ∃ i b, H0[i]? = some b ∧ Lies b (C0.ρ i) k
 lies : ∀ i b k, Hp i = some b → Lies b (C.ρ i) k → w0.heap.size ≤ k ∨ ∃ j b0, H0[j]? = some b0 ∧ Lies b0 (C0.ρ j) k
theorem RB.writes_of_lies {id : Nat} {b : Blk} {k : Nat} (h : RB C w id b) (hl : Lies b (C.ρ id) k) (hF : ¬ C.Fz k) : Writes b (C.ρ id) k := by
 cases h with
 | box cs b c t hρ hb hn hF' h h1 => rw [hρ] at hl ⊢; exact hl
 | arr0 e sz fl fz hρ hz hz0 => rw [hρ] at hl; exact hl.elim
 | arr e sz fl fz xs g cap c hρ hz hz0 hb hc hl' hcap hF' hs hfl h =>
  rw [hρ] at hl ⊢
  simp only [Lies] at hl; subst hl
  refine ⟨?_, rfl⟩
  cases fz with
  | false => rfl
  | true => exact absurd (hF'.2 rfl) hF
 | mp l b es ck hρ hb => rw [hρ] at hl ⊢; exact hl
 | dead => exact hl.elim
theorem RB.not_fz {id : Nat} {b : Blk} {k : Nat} (h : RB C w id b) (hl : Writes b (C.ρ id) k) : ¬ C.Fz k := by
 cases h with
 | box cs b c t hρ hb hn hF' h h1 => rw [hρ] at hl; simp only [Writes] at hl; subst hl; exact hF'
 | arr0 e sz fl fz hρ hz hz0 => rw [hρ] at hl; exact hl.elim
 | arr e sz fl fz xs g cap c hρ hz hz0 hb hc hl' hcap hF' hs hfl h =>
  rw [hρ] at hl
  obtain ⟨h1, rfl⟩ := hl
  intro hf
  have := hF'.1 hf
  rw [h1] at this; cases this
 | mp l b es ck hρ hb hF' => rw [hρ] at hl; simp only [Writes] at hl; subst hl; exact hF'
 | dead => exact hl.elim
theorem Cum.refl : Cum C0 w0 H0 C0 w0 (at_ H0) :=
 ⟨Keeps.refl C0 w0, rfl, rfl, rfl, Nat.le_refl _, fun _ _ => .inl rfl, fun _ h => .inl h, fun i b _ h hl => .inr ⟨i, b, h, hl⟩⟩
theorem Cum.step (h0 : RH C0 w0 (at_ H0)) (h : Cum C0 w0 H0 C w Hp) (hH : RH C w Hp) (L : Local C C' w w' H H' Hp wr) : Cum C0 w0 H0 C' w' (upd Hp H H' wr) := by
 have hW : ∀ i b k, Hp i = some b → Writes b (C.ρ i) k → w0.heap.size ≤ k ∨ ∃ j b0, H0[j]? = some b0 ∧ Writes b0 (C0.ρ j) k := fun i b k hi hw => by
  rcases h.lies i b k hi hw.lies with h1 | ⟨j, b0, hj, hl⟩
  ·exact .inl h1
  ·exact .inr ⟨j, b0, hj, (h0.blk j b0 hj).writes_of_lies hl (fun hf => (hH.blk i b hi).not_fz hw (h.keeps.fz k hf))⟩
 refine ⟨h.keeps.trans L.keeps, L.os.trans h.os, L.tape.trans h.tape, L.output.trans h.output, Nat.le_trans h.size L.size, fun k hk => ?_, fun k hk => ?_, fun i b k hi hl => ?_⟩
 ·rcases L.frame k (Nat.lt_of_lt_of_le hk h.size) with e | ⟨i, _, b, hi, hw⟩
  ·rw [e]; exact h.frame k hk
  ·rcases hW i b k hi hw with h1 | h1
   ·omega
   ·exact .inr h1
 ·rcases L.newF k hk with e | e | ⟨i, _, b, hi, hl⟩
  ·exact h.newF k e
  ·exact .inr (.inl (Nat.le_trans h.size e))
  ·exact .inr (h.lies i b k hi hl)
 ·unfold upd at hi
  split at hi
  ·rename_i ht
   rcases L.lies i b k ht hi hl with e | ⟨j, _, b0, hj, hl0⟩
   ·exact .inl (Nat.le_trans h.size e)
   ·exact h.lies j b0 k hj hl0
  ·rw [L.keeps.rho _ (hH.dom i b hi)] at hl
   exact h.lies i b k hi hl
theorem World.heap_cell {w w' : World} (h : w'.heap = w.heap) : ∀ (b : Nat), w'.heap[b]? = w.heap[b]? := fun b => by rw [h]
theorem Keeps.same (h : w'.heap = w.heap) : Keeps C C w w' := ⟨fun _ h => h, fun b _ => by rw [h], fun _ h => h, fun _ _ => rfl, fun _ _ => rfl⟩
theorem RH.same (h : w'.heap = w.heap) (hH : RH C w Hp) : RH C w' Hp :=
 ⟨hH.dom, fun i b hb => (hH.blk i b hb).step (hH.dom i b hb) (Keeps.same h) (fun k _ => ⟨by rw [h], fun f => f⟩), hH.inj, fun b hb => by rw [h]; exact hH.lt b hb⟩
theorem Cum.same (h : w'.heap = w.heap) (ho : w'.os = w.os) (ht : w'.tape = w.tape) (hp : w'.output = w.output) (c : Cum C0 w0 H0 C w Hp) : Cum C0 w0 H0 C w' Hp :=
 ⟨c.keeps.trans (Keeps.same h), ho.trans c.os, ht.trans c.tape, hp.trans c.output, by rw [h]; exact c.size, fun k hk => by rw [h]; exact c.frame k hk, c.newF, c.lies⟩
class DefL where
 ds : List Deferred
 t : TypeId
structure SR [DefL] (C0 : Ctx) (w0 : World) (H0 : List Blk) (N : Nat) (C : Ctx) (a : Act) (w : World) (s : St) : Prop where
 env : EnvR C w a s.env
 heap : RH C w (at_ s.H)
 dom : ∀ i, C.D i ↔ i < s.H.length
 cum : Cum C0 w0 H0 C w (at_ s.H)
 len : H0.length ≤ s.H.length
 tmps : N ≤ a.tmps.size
 defers : a.defers = DefL.ds
theorem Cum.fnPost (c : Cum C0 w0 H0 C w (at_ H)) (hH : RH C w (at_ H)) (hd0 : ∀ i, C0.D i ↔ i < H0.length) (hd : ∀ i, C.D i ↔ i < H.length) (hl : H0.length ≤ H.length) :
  Local C0 C w0 w H0 H (at_ H0) (List.range H0.length) := by
 have hx : ∀ {k : Nat} {R : Blk → Loc → Nat → Prop}, (∃ i b, H0[i]? = some b ∧ R b (C0.ρ i) k) → ∃ i ∈ List.range H0.length, ∃ b, at_ H0 i = some b ∧ R b (C0.ρ i) k :=
  fun ⟨i, b, h, hr⟩ => ⟨i, List.mem_range.2 (List.getElem?_eq_some_iff.1 h).1, b, h, hr⟩
 refine ⟨c.keeps, c.os, c.tape, c.output, c.size, hl, fun i hi hn => absurd (List.mem_range.2 hi) hn, fun k hk => (c.frame k hk).imp id hx, fun k hk => (c.newF k hk).imp id (Or.imp id hx), hH.lt,
  fun i hi => (hd0 i).2 (List.mem_range.1 hi), fun i => ?_, fun i b _ hb => hH.blk i b hb, fun i b k _ hb hl => (c.lies i b k hb hl).imp id hx, fun i j b b' k _ _ hb hb' h1 h2 => hH.inj i j b b' k hb hb' h1 h2⟩
 rw [hd i, hd0 i]; omega
end Go.Ax
