/-
  Ax, text 9: what a step that turns memory leaves, and that all that is owned stands behind it.
-/
import Derived.Test.YtponcchkfmbicaaXPure5
namespace Go.Ax
open Go.RowKit

/-- Numbers that a step turns or makes. -/
def Tch (H H' : List Blk) (wr : List Nat) (i : Nat) : Prop := i ∈ wr ∨ (H.length ≤ i ∧ i < H'.length)
open Classical in
noncomputable def upd (Hp : Nat → Option Blk) (H H' : List Blk) (wr : List Nat) : Nat → Option Blk := fun i => if Tch H H' wr i then H'[i]? else Hp i

structure Local (C C' : Ctx) (w w' : World) (H H' : List Blk) (Hp : Nat → Option Blk) (wr : List Nat) : Prop where
  keeps : Keeps C C' w w'
  os : w'.os = w.os
  tape : w'.tape = w.tape
  output : w'.output = w.output
  size : w.heap.size ≤ w'.heap.size
  len : H.length ≤ H'.length
  same : ∀ i, i < H.length → i ∉ wr → H'[i]? = H[i]?
  frame : ∀ k, k < w.heap.size → w'.heap[k]? = w.heap[k]? ∨ ∃ i ∈ wr, ∃ b, Hp i = some b ∧ Writes b (C.ρ i) k
  newF : ∀ k, C'.Fz k → C.Fz k ∨ w.heap.size ≤ k ∨ ∃ i ∈ wr, ∃ b, Hp i = some b ∧ Lies b (C.ρ i) k
  ltF : ∀ k, C'.Fz k → k < w'.heap.size
  wrD : ∀ i ∈ wr, C.D i
  dom : ∀ i, C'.D i ↔ C.D i ∨ (H.length ≤ i ∧ i < H'.length)
  blk : ∀ i b, Tch H H' wr i → H'[i]? = some b → RB C' w' i b
  lies : ∀ i b k, Tch H H' wr i → H'[i]? = some b → Lies b (C'.ρ i) k → w.heap.size ≤ k ∨ ∃ j ∈ wr, ∃ b0, Hp j = some b0 ∧ Lies b0 (C.ρ j) k
  inj : ∀ i j b b' k, Tch H H' wr i → Tch H H' wr j → H'[i]? = some b → H'[j]? = some b' → Lies b (C'.ρ i) k → Lies b' (C'.ρ j) k → i = j

variable {P : Program} {C C' : Ctx} {w w' : World} {H H' : List Blk} {Hp : Nat → Option Blk} {wr : List Nat}

theorem Writes.lies {b : Blk} {l : Loc} {k : Nat} (h : Writes b l k) : Lies b l k := by
  cases b <;> cases l <;> simp only [Writes, Lies] at h ⊢ <;> first | exact h | exact h.2

theorem RB.lies_lt {id : Nat} {b : Blk} {k : Nat} (h : RB C w id b) (hl : Lies b (C.ρ id) k) : k < w.heap.size := by
  cases h with
  | box cs b c t hρ hb hn hF h h1 => rw [hρ] at hl; simp only [Lies] at hl; subst hl; exact (Array.getElem?_eq_some_iff.1 hb).1
  | arr0 e sz fl fz hρ hz hz0 => rw [hρ] at hl; exact hl.elim
  | arr e sz fl fz xs g cap c hρ hz hz0 hb hc hl' hcap hF hs hfl h => rw [hρ] at hl; simp only [Lies] at hl; subst hl; exact (Array.getElem?_eq_some_iff.1 hb).1
  | mp l b es ck hρ hb => rw [hρ] at hl; simp only [Lies] at hl; subst hl; exact (Array.getElem?_eq_some_iff.1 hb).1
  | dead => exact hl.elim

/-- What a step leaves alone stands. -/
theorem RB.step {id : Nat} {b : Blk} (h : RB C w id b) (hD : C.D id) (K : Keeps C C' w w') (hb : ∀ k, Lies b (C.ρ id) k → w'.heap[k]? = w.heap[k]? ∧ (C'.Fz k → C.Fz k)) : RB C' w' id b := by
  cases h with
  | box cs b c t hρ hbk hn hF h h1 =>
    obtain ⟨e1, e2⟩ := hb b (by rw [hρ]; rfl)
    exact .box cs b c t ((K.rho _ hD).trans hρ) (e1.trans hbk) hn (fun f => hF (e2 f)) (fun j v av hv hav => (h j v av hv hav).keeps K) h1
  | arr0 e sz fl fz hρ hz hz0 => exact .arr0 e sz fl fz ((K.rho _ hD).trans hρ) ((K.siz _ hD).trans hz) hz0
  | arr e sz fl fz xs g cap c hρ hz hz0 hbk hc hl hcap hF hs hfl h =>
    obtain ⟨e1, e2⟩ := hb g (by rw [hρ]; rfl)
    exact .arr e sz fl fz xs g cap c ((K.rho _ hD).trans hρ) ((K.siz _ hD).trans hz) hz0 (e1.trans hbk) hc hl hcap ⟨fun f => hF.1 (e2 f), fun f => K.fz _ (hF.2 f)⟩ hs hfl
      (fun k d hk => let ⟨v, a, b, c⟩ := h k d hk; ⟨v, a, b.keeps K.fz K.blk, c⟩)
  | mp l b es ck hρ hbk hF hst hsz hl hk hs =>
    obtain ⟨e1, e2⟩ := hb b (by rw [hρ]; rfl)
    exact .mp l b es ck ((K.rho _ hD).trans hρ) (e1.trans hbk) (fun f => hF (e2 f)) hst hsz hl (fun x hx => let ⟨n, a, b, d, e, f⟩ := hk x hx; ⟨n, a, b, d, e, f.keeps K.fz K.blk⟩) hs
  | dead => exact .dead

theorem Local.heap (L : Local C C' w w' H H' Hp wr) (h : RH C w Hp) : RH C' w' (upd Hp H H' wr) := by
  have old : ∀ i b, ¬ Tch H H' wr i → Hp i = some b → ∀ k, Lies b (C.ρ i) k → (w'.heap[k]? = w.heap[k]? ∧ (C'.Fz k → C.Fz k)) ∧ ∀ j ∈ wr, ∀ b0, Hp j = some b0 → ¬ Lies b0 (C.ρ j) k := by
    intro i b hi hb k hk
    have hno : ∀ j ∈ wr, ∀ b0, Hp j = some b0 → ¬ Lies b0 (C.ρ j) k := fun j hj b0 hb0 hl => by
      have := h.inj i j b b0 k hb hb0 hk hl
      subst this
      exact hi (.inl hj)
    refine ⟨⟨?_, fun f => ?_⟩, hno⟩
    · rcases L.frame k ((h.blk i b hb).lies_lt hk) with e | ⟨j, hj, b0, hb0, hw⟩
      · exact e
      · exact (hno j hj b0 hb0 hw.lies).elim
    · rcases L.newF k f with e | e | ⟨j, hj, b0, hb0, hw⟩
      · exact e
      · exact absurd ((h.blk i b hb).lies_lt hk) (by omega)
      · exact (hno j hj b0 hb0 hw).elim
  refine ⟨fun i b hb => ?_, fun i b hb => ?_, fun i j b b' k hi hj hli hlj => ?_, L.ltF⟩
  · unfold upd at hb
    split at hb
    · rename_i ht
      rcases ht with ht | ht
      · exact (L.dom i).2 (.inl (L.wrD i ht))
      · exact (L.dom i).2 (.inr ht)
    · exact (L.dom i).2 (.inl (h.dom i b hb))
  · unfold upd at hb
    split at hb
    · rename_i ht; exact L.blk i b ht hb
    · rename_i ht
      exact (h.blk i b hb).step (h.dom i b hb) L.keeps (fun k hk => (old i b ht hb k hk).1)
  · unfold upd at hi hj
    split at hi <;> split at hj
    · rename_i ti tj; exact L.inj i j b b' k ti tj hi hj hli hlj
    · rename_i ti tj
      rw [L.keeps.rho _ (h.dom j b' hj)] at hlj
      rcases L.lies i b k ti hi hli with e | ⟨m, hm, b0, hb0, hl0⟩
      · exact absurd ((h.blk j b' hj).lies_lt hlj) (by omega)
      · exact ((old j b' tj hj k hlj).2 m hm b0 hb0 hl0).elim
    · rename_i ti tj
      rw [L.keeps.rho _ (h.dom i b hi)] at hli
      rcases L.lies j b' k tj hj hlj with e | ⟨m, hm, b0, hb0, hl0⟩
      · exact absurd ((h.blk i b hi).lies_lt hli) (by omega)
      · exact ((old i b ti hi k hli).2 m hm b0 hb0 hl0).elim
    · rename_i ti tj
      rw [L.keeps.rho _ (h.dom i b hi)] at hli
      rw [L.keeps.rho _ (h.dom j b' hj)] at hlj
      exact h.inj i j b b' k hi hj hli hlj


theorem freeze_get (ids : List Nat) (H : List Blk) (i : Nat) : (freeze ids H)[i]? = (H[i]?).map fun b => if ids.contains i then freeze1 b else b := by
  simp [freeze, List.getElem?_mapIdx]
theorem freeze_length (ids : List Nat) (H : List Blk) : (freeze ids H).length = H.length := by simp [freeze]
theorem freeze_nil (H : List Blk) : freeze [] H = H := by
  apply List.ext_getElem?
  intro i
  rw [freeze_get]
  cases H[i]? <;> simp

theorem Lies.freeze1 {b : Blk} {l : Loc} {k : Nat} : Lies (freeze1 b) l k ↔ Lies b l k := by
  cases b <;> cases l <;> simp [Ax.freeze1, Lies]

/-- New blocks behind the old, and some arrays frozen. -/
theorem Local.ext (hH : RH C w Hp) (ids : List Nat) (L : List Blk) (F' : Nat → Prop)
    (hids : ∀ i ∈ ids, ∃ e sz fl fz xs, H[i]? = some (.arr e sz fl fz xs)) (hHp : ∀ i ∈ ids, Hp i = H[i]?)
    (hρ : ∀ i, C.D i → C'.ρ i = C.ρ i) (hsz : ∀ i, C.D i → C'.sz i = C.sz i) (hDom : ∀ i, C'.D i ↔ C.D i ∨ (H.length ≤ i ∧ i < H.length + L.length))
    (hFz : ∀ k, C'.Fz k ↔ C.Fz k ∨ (∃ i ∈ ids, ∃ b, H[i]? = some b ∧ Lies b (C.ρ i) k) ∨ (w.heap.size ≤ k ∧ F' k))
    (hos : w'.os = w.os) (htape : w'.tape = w.tape) (hout : w'.output = w.output) (hsize : w.heap.size ≤ w'.heap.size)
    (hsame : ∀ k, k < w.heap.size → w'.heap[k]? = w.heap[k]?) (hlt : ∀ k, F' k → k < w'.heap.size)
    (hblk : ∀ j b, L[j]? = some b → RB C' w' (H.length + j) b)
    (hlies : ∀ j b k, L[j]? = some b → Lies b (C'.ρ (H.length + j)) k → w.heap.size ≤ k)
    (hinj : ∀ i j b b' k, L[i]? = some b → L[j]? = some b' → Lies b (C'.ρ (H.length + i)) k → Lies b' (C'.ρ (H.length + j)) k → i = j) :
    Local C C' w w' H (freeze ids H ++ L) Hp ids := by
  have hK : Keeps C C' w w' := ⟨fun b hb => (hFz b).2 (.inl hb), fun b hb => hsame b (hH.lt b hb), fun i hi => (hDom i).2 (.inl hi), hρ, hsz⟩
  have hidD : ∀ i ∈ ids, C.D i := fun i hi => by
    obtain ⟨e, sz, fl, fz, xs, h⟩ := hids i hi
    exact hH.dom i _ ((hHp i hi).trans h)
  have hidlt : ∀ i ∈ ids, i < H.length := fun i hi => by
    obtain ⟨e, sz, fl, fz, xs, h⟩ := hids i hi
    exact (List.getElem?_eq_some_iff.1 h).1
  have getold : ∀ i, i < H.length → (freeze ids H ++ L)[i]? = (freeze ids H)[i]? := fun i hi => List.getElem?_append_left (by rw [freeze_length]; exact hi)
  have getnew : ∀ i, H.length ≤ i → (freeze ids H ++ L)[i]? = L[i - H.length]? := fun i hi => by rw [List.getElem?_append_right (by rw [freeze_length]; exact hi), freeze_length]
  have hlen : (freeze ids H ++ L).length = H.length + L.length := by rw [List.length_append, freeze_length]
  have tch : ∀ i, Tch H (freeze ids H ++ L) ids i → (i ∈ ids ∧ i < H.length) ∨ (H.length ≤ i ∧ i < H.length + L.length) := fun i hi => by
    rcases hi with hi | hi
    · exact .inl ⟨hi, hidlt i hi⟩
    · rw [hlen] at hi; exact .inr hi
  have oldOf : ∀ i b, i ∈ ids → (freeze ids H ++ L)[i]? = some b → ∃ e sz fl fz xs, H[i]? = some (.arr e sz fl fz xs) ∧ b = .arr e sz fl true xs := fun i b hi hb => by
    obtain ⟨e, sz, fl, fz, xs, h⟩ := hids i hi
    rw [getold i (hidlt i hi), freeze_get, h] at hb
    have hc : ids.contains i = true := List.contains_iff_mem.2 hi
    simp only [Option.map_some, hc, if_true, freeze1, Option.some.injEq] at hb
    exact ⟨e, sz, fl, fz, xs, h, hb.symm⟩
  refine ⟨hK, hos, htape, hout, hsize, by rw [hlen]; omega, fun i hi hn => ?_, fun k hk => .inl (hsame k hk), fun k f => ?_, fun k f => ?_, hidD, fun i => by rw [hlen]; exact hDom i, fun i b ht hb => ?_, fun i b k ht hb hl => ?_, fun i j b b' k hi hj hbi hbj hli hlj => ?_⟩
  · rw [getold i hi, freeze_get]
    cases H[i]? <;> simp [hn]
  · rcases (hFz k).1 f with h | ⟨i, hi, b, hb, hl⟩ | h
    · exact .inl h
    · exact .inr (.inr ⟨i, hi, b, (hHp i hi).trans hb, hl⟩)
    · exact .inr (.inl h.1)
  · rcases (hFz k).1 f with h | ⟨i, hi, b, hb, hl⟩ | h
    · have := hH.lt k h; omega
    · have := (hH.blk i b ((hHp i hi).trans hb)).lies_lt hl; omega
    · exact hlt k h.2
  · rcases tch i ht with ⟨hi, hil⟩ | ⟨h1, h2⟩
    · obtain ⟨e, sz, fl, fz, xs, h, rfl⟩ := oldOf i b hi hb
      have hB := hH.blk i _ ((hHp i hi).trans h)
      have hD := hidD i hi
      cases hB with
      | arr0 e sz fl fz hρ' hz hz0 => exact .arr0 e sz fl true ((hρ _ hD).trans hρ') ((hsz _ hD).trans hz) hz0
      | arr e sz fl fz xs g cap c hρ' hz hz0 hbk hc hl hcap hF hs hfl hcell =>
        refine .arr e sz fl true xs g cap c ((hρ _ hD).trans hρ') ((hsz _ hD).trans hz) hz0 ((hsame g (Array.getElem?_eq_some_iff.1 hbk).1).trans hbk) hc hl hcap ⟨fun _ => rfl, fun _ => (hFz g).2 (.inr (.inl ⟨i, hi, _, h, by rw [hρ']; rfl⟩))⟩ hs hfl
          (fun k d hk => let ⟨v, a, b, c⟩ := hcell k d hk; ⟨v, a, b.keeps hK.fz hK.blk, c⟩)
    · rw [getnew i h1] at hb
      have := hblk _ b hb
      rwa [show H.length + (i - H.length) = i by omega] at this
  · rcases tch i ht with ⟨hi, hil⟩ | ⟨h1, h2⟩
    · obtain ⟨e, sz, fl, fz, xs, h, rfl⟩ := oldOf i b hi hb
      refine .inr ⟨i, hi, _, (hHp i hi).trans h, ?_⟩
      rw [← hρ _ (hidD i hi)]
      generalize C'.ρ i = l at hl ⊢
      cases l <;> exact hl
    · rw [getnew i h1] at hb
      refine .inl (hlies _ b k hb ?_)
      rwa [show H.length + (i - H.length) = i by omega]
  · have arrOld : ∀ i b, i ∈ ids → (freeze ids H ++ L)[i]? = some b → Lies b (C'.ρ i) k → ∃ b0, Hp i = some b0 ∧ Lies b0 (C.ρ i) k := fun i b hi hb hl => by
      obtain ⟨e, sz, fl, fz, xs, h, rfl⟩ := oldOf i b hi hb
      refine ⟨_, (hHp i hi).trans h, ?_⟩
      rw [← hρ _ (hidD i hi)]
      generalize C'.ρ i = l at hl ⊢
      cases l <;> exact hl
    rcases tch i hi with ⟨hi, hil⟩ | ⟨h1, h2⟩ <;> rcases tch j hj with ⟨hj, hjl⟩ | ⟨k1, k2⟩
    · obtain ⟨b0, e1, e2⟩ := arrOld i b hi hbi hli
      obtain ⟨b1, e3, e4⟩ := arrOld j b' hj hbj hlj
      exact hH.inj i j b0 b1 k e1 e3 e2 e4
    · obtain ⟨b0, e1, e2⟩ := arrOld i b hi hbi hli
      have := (hH.blk i b0 e1).lies_lt e2
      rw [getnew j k1] at hbj
      have := hlies _ b' k hbj (by rwa [show H.length + (j - H.length) = j by omega])
      omega
    · obtain ⟨b0, e1, e2⟩ := arrOld j b' hj hbj hlj
      have := (hH.blk j b0 e1).lies_lt e2
      rw [getnew i h1] at hbi
      have := hlies _ b k hbi (by rwa [show H.length + (i - H.length) = i by omega])
      omega
    · rw [getnew i h1] at hbi
      rw [getnew j k1] at hbj
      have := hinj _ _ b b' k hbi hbj (by rwa [show H.length + (i - H.length) = i by omega]) (by rwa [show H.length + (j - H.length) = j by omega])
      omega

end Go.Ax
