/-
  Ax, text 9: what a step that turns memory leaves, and that all that is owned stands behind it.
-/
import Derived.Test.YtfoglingdnhjpaaGreatDoorXPure
import Derived.Laws.MakeOwn
import Derived.Laws.CopyRow
import Derived.Maps.AppendAt
namespace Go.Ax
set_option linter.all false
open Go.RowKit
def Tch (H H' : List Blk) (wr : List Nat) (i : Nat) : Prop := i ∈ wr ∨ (H.length ≤ i ∧ i < H'.length)
open Classical in
noncomputable def upd (Hp : Nat → Option Blk) (H H' : List Blk) (wr : List Nat) : Nat → Option Blk := fun i => if Tch H H' wr i then H'[i]? else Hp i
structure Local (C C' : Ctx) (w w' : World) (H H' : List Blk) (Hp : Nat → Option Blk) (wr : List Nat) : Prop where
 keeps : Keeps C C' w w'
 os : w'.os = w.os
 tape : w'.tape = w.tape
 output : w'.output = w.output
 size : w.heap.size ≤ w'.heap.size
 len : H.length ≤ H'.length
 same : ∀ i, i < H.length → i ∉ wr → H'[i]? = H[i]?
 frame : ∀ k, k < w.heap.size → w'.heap[k]? = w.heap[k]? ∨ ∃ i ∈ wr, ∃ b, Hp i = some b ∧ Writes b (C.ρ i) k
 newF : ∀ k, C'.Fz k → C.Fz k ∨ w.heap.size ≤ k ∨ ∃ i ∈ wr, ∃ b, Hp i = some b ∧ Lies b (C.ρ i) k
 ltF : ∀ k, C'.Fz k → k < w'.heap.size
 wrD : ∀ i ∈ wr, C.D i
 dom : ∀ i, C'.D i ↔ C.D i ∨ (H.length ≤ i ∧ i < H'.length)
 blk : ∀ i b, Tch H H' wr i → H'[i]? = some b → RB C' w' i b
 lies : ∀ i b k, Tch H H' wr i → H'[i]? = some b → Lies b (C'.ρ i) k → w.heap.size ≤ k ∨ ∃ j ∈ wr, ∃ b0, Hp j = some b0 ∧ Lies b0 (C.ρ j) k
 inj : ∀ i j b b' k, Tch H H' wr i → Tch H H' wr j → H'[i]? = some b → H'[j]? = some b' → Lies b (C'.ρ i) k → Lies b' (C'.ρ j) k → i = j
variable {P : Program} {C C' : Ctx} {w w' : World} {H H' : List Blk} {Hp : Nat → Option Blk} {wr : List Nat}
theorem Writes.lies {b : Blk} {l : Loc} {k : Nat} (h : Writes b l k) : Lies b l k := by
 cases b <;> cases l <;> simp only [Writes, Lies] at h ⊢ <;> first | exact h | exact h.2
theorem RB.lies_lt {id : Nat} {b : Blk} {k : Nat} (h : RB C w id b) (hl : Lies b (C.ρ id) k) : k < w.heap.size := by
 cases h with
 | box cs b c t hρ hb hn hF h h1 => rw [hρ] at hl; simp only [Lies] at hl; subst hl; exact (Array.getElem?_eq_some_iff.1 hb).1
 | arr0 e sz fl fz hρ hz hz0 => rw [hρ] at hl; exact hl.elim
 | arr e sz fl fz xs g cap c hρ hz hz0 hb hc hl' hcap hF hs hfl h => rw [hρ] at hl; simp only [Lies] at hl; subst hl; exact (Array.getElem?_eq_some_iff.1 hb).1
 | mp l b es ck hρ hb => rw [hρ] at hl; simp only [Lies] at hl; subst hl; exact (Array.getElem?_eq_some_iff.1 hb).1
 | dead => exact hl.elim
theorem RB.step {id : Nat} {b : Blk} (h : RB C w id b) (hD : C.D id) (K : Keeps C C' w w') (hb : ∀ k, Lies b (C.ρ id) k → w'.heap[k]? = w.heap[k]? ∧ (C'.Fz k → C.Fz k)) : RB C' w' id b := by
 cases h with
 | box cs b c t hρ hbk hn hF h h1 =>
  obtain ⟨e1, e2⟩ := hb b (by rw [hρ]; rfl)
  exact .box cs b c t ((K.rho _ hD).trans hρ) (e1.trans hbk) hn (fun f => hF (e2 f)) (fun j v av hv hav => (h j v av hv hav).keeps K) h1
 | arr0 e sz fl fz hρ hz hz0 => exact .arr0 e sz fl fz ((K.rho _ hD).trans hρ) ((K.siz _ hD).trans hz) hz0
 | arr e sz fl fz xs g cap c hρ hz hz0 hbk hc hl hcap hF hs hfl h =>
  obtain ⟨e1, e2⟩ := hb g (by rw [hρ]; rfl)
  exact .arr e sz fl fz xs g cap c ((K.rho _ hD).trans hρ) ((K.siz _ hD).trans hz) hz0 (e1.trans hbk) hc hl hcap ⟨fun f => hF.1 (e2 f), fun f => K.fz _ (hF.2 f)⟩ hs hfl
   (fun k d hk => let ⟨v, a, b, c⟩ := h k d hk; ⟨v, a, b.keeps K.fz K.blk, c⟩)
 | mp l b es ck hρ hbk hF hst hsz hl hk hs =>
  obtain ⟨e1, e2⟩ := hb b (by rw [hρ]; rfl)
  exact .mp l b es ck ((K.rho _ hD).trans hρ) (e1.trans hbk) (fun f => hF (e2 f)) hst hsz hl (fun x hx => let ⟨n, a, b, d, e, f⟩ := hk x hx; ⟨n, a, b, d, e, f.keeps K.fz K.blk⟩) hs
 | dead => exact .dead
theorem Local.heap (L : Local C C' w w' H H' Hp wr) (h : RH C w Hp) : RH C' w' (upd Hp H H' wr) := by
 have old : ∀ i b, ¬ Tch H H' wr i → Hp i = some b → ∀ k, Lies b (C.ρ i) k → (w'.heap[k]? = w.heap[k]? ∧ (C'.Fz k → C.Fz k)) ∧ ∀ j ∈ wr, ∀ b0, Hp j = some b0 → ¬ Lies b0 (C.ρ j) k := by
  intro i b hi hb k hk
  have hno : ∀ j ∈ wr, ∀ b0, Hp j = some b0 → ¬ Lies b0 (C.ρ j) k := fun j hj b0 hb0 hl => by
   have := h.inj i j b b0 k hb hb0 hk hl
   subst this
   exact hi (.inl hj)
  refine ⟨⟨?_, fun f => ?_⟩, hno⟩
  ·rcases L.frame k ((h.blk i b hb).lies_lt hk) with e | ⟨j, hj, b0, hb0, hw⟩
   ·exact e
   ·exact (hno j hj b0 hb0 hw.lies).elim
  ·rcases L.newF k f with e | e | ⟨j, hj, b0, hb0, hw⟩
   ·exact e
   ·exact absurd ((h.blk i b hb).lies_lt hk) (by omega)
   ·exact (hno j hj b0 hb0 hw).elim
 refine ⟨fun i b hb => ?_, fun i b hb => ?_, fun i j b b' k hi hj hli hlj => ?_, L.ltF⟩
 ·unfold upd at hb
  split at hb
  ·rename_i ht
   rcases ht with ht | ht
   ·exact (L.dom i).2 (.inl (L.wrD i ht))
   ·exact (L.dom i).2 (.inr ht)
  ·exact (L.dom i).2 (.inl (h.dom i b hb))
 ·unfold upd at hb
  split at hb
  ·rename_i ht; exact L.blk i b ht hb
  ·rename_i ht
   exact (h.blk i b hb).step (h.dom i b hb) L.keeps (fun k hk => (old i b ht hb k hk).1)
 ·unfold upd at hi hj
  split at hi <;> split at hj
  ·rename_i ti tj; exact L.inj i j b b' k ti tj hi hj hli hlj
  ·rename_i ti tj
   rw [L.keeps.rho _ (h.dom j b' hj)] at hlj
   rcases L.lies i b k ti hi hli with e | ⟨m, hm, b0, hb0, hl0⟩
   ·exact absurd ((h.blk j b' hj).lies_lt hlj) (by omega)
   ·exact ((old j b' tj hj k hlj).2 m hm b0 hb0 hl0).elim
  ·rename_i ti tj
   rw [L.keeps.rho _ (h.dom i b hi)] at hli
   rcases L.lies j b' k tj hj hlj with e | ⟨m, hm, b0, hb0, hl0⟩
   ·exact absurd ((h.blk i b hi).lies_lt hli) (by omega)
   ·exact ((old i b ti hi k hli).2 m hm b0 hb0 hl0).elim
  ·rename_i ti tj
   rw [L.keeps.rho _ (h.dom i b hi)] at hli
   rw [L.keeps.rho _ (h.dom j b' hj)] at hlj
   exact h.inj i j b b' k hi hj hli hlj
theorem freeze_get (ids : List Nat) (H : List Blk) (i : Nat) : (freeze ids H)[i]? = (H[i]?).map fun b => if ids.contains i then freeze1 b else b := by
 simp [freeze, List.getElem?_mapIdx]
theorem freeze_length (ids : List Nat) (H : List Blk) : (freeze ids H).length = H.length := by simp [freeze]
theorem freeze_nil (H : List Blk) : freeze [] H = H := by
 apply List.ext_getElem?
 intro i
 rw [freeze_get]
 cases H[i]? <;> simp
theorem Lies.freeze1 {b : Blk} {l : Loc} {k : Nat} : Lies (freeze1 b) l k ↔ Lies b l k := by
 cases b <;> cases l <;> simp [Ax.freeze1, Lies]
theorem Local.ext (hH : RH C w Hp) (ids : List Nat) (L : List Blk) (F' : Nat → Prop)
  (hids : ∀ i ∈ ids, ∃ e sz fl fz xs, H[i]? = some (.arr e sz fl fz xs)) (hHp : ∀ i ∈ ids, Hp i = H[i]?)
  (hρ : ∀ i, C.D i → C'.ρ i = C.ρ i) (hsz : ∀ i, C.D i → C'.sz i = C.sz i) (hDom : ∀ i, C'.D i ↔ C.D i ∨ (H.length ≤ i ∧ i < H.length + L.length))
  (hFz : ∀ k, C'.Fz k ↔ C.Fz k ∨ (∃ i ∈ ids, ∃ b, H[i]? = some b ∧ Lies b (C.ρ i) k) ∨ (w.heap.size ≤ k ∧ F' k))
  (hos : w'.os = w.os) (htape : w'.tape = w.tape) (hout : w'.output = w.output) (hsize : w.heap.size ≤ w'.heap.size)
  (hsame : ∀ k, k < w.heap.size → w'.heap[k]? = w.heap[k]?) (hlt : ∀ k, F' k → k < w'.heap.size)
  (hblk : ∀ j b, L[j]? = some b → RB C' w' (H.length + j) b)
  (hlies : ∀ j b k, L[j]? = some b → Lies b (C'.ρ (H.length + j)) k → w.heap.size ≤ k)
  (hinj : ∀ i j b b' k, L[i]? = some b → L[j]? = some b' → Lies b (C'.ρ (H.length + i)) k → Lies b' (C'.ρ (H.length + j)) k → i = j) :
  Local C C' w w' H (freeze ids H ++ L) Hp ids := by
 have hK : Keeps C C' w w' := ⟨fun b hb => (hFz b).2 (.inl hb), fun b hb => hsame b (hH.lt b hb), fun i hi => (hDom i).2 (.inl hi), hρ, hsz⟩
 have hidD : ∀ i ∈ ids, C.D i := fun i hi => by
  obtain ⟨e, sz, fl, fz, xs, h⟩ := hids i hi
  exact hH.dom i _ ((hHp i hi).trans h)
 have hidlt : ∀ i ∈ ids, i < H.length := fun i hi => by
  obtain ⟨e, sz, fl, fz, xs, h⟩ := hids i hi
  exact (List.getElem?_eq_some_iff.1 h).1
 have getold : ∀ i, i < H.length → (freeze ids H ++ L)[i]? = (freeze ids H)[i]? := fun i hi => List.getElem?_append_left (by rw [freeze_length]; exact hi)
 have getnew : ∀ i, H.length ≤ i → (freeze ids H ++ L)[i]? = L[i - H.length]? := fun i hi => by rw [List.getElem?_append_right (by rw [freeze_length]; exact hi), freeze_length]
 have hlen : (freeze ids H ++ L).length = H.length + L.length := by rw [List.length_append, freeze_length]
 have tch : ∀ i, Tch H (freeze ids H ++ L) ids i → (i ∈ ids ∧ i < H.length) ∨ (H.length ≤ i ∧ i < H.length + L.length) := fun i hi => by
  rcases hi with hi | hi
  ·exact .inl ⟨hi, hidlt i hi⟩
  ·rw [hlen] at hi; exact .inr hi
 have oldOf : ∀ i b, i ∈ ids → (freeze ids H ++ L)[i]? = some b → ∃ e sz fl fz xs, H[i]? = some (.arr e sz fl fz xs) ∧ b = .arr e sz fl true xs := fun i b hi hb => by
  obtain ⟨e, sz, fl, fz, xs, h⟩ := hids i hi
  rw [getold i (hidlt i hi), freeze_get, h] at hb
  have hc : ids.contains i = true := List.contains_iff_mem.2 hi
  simp only [Option.map_some, hc, if_true, freeze1, Option.some.injEq] at hb
  exact ⟨e, sz, fl, fz, xs, h, hb.symm⟩
 refine ⟨hK, hos, htape, hout, hsize, by rw [hlen]; omega, fun i hi hn => ?_, fun k hk => .inl (hsame k hk), fun k f => ?_, fun k f => ?_, hidD, fun i => by rw [hlen]; exact hDom i, fun i b ht hb => ?_, fun i b k ht hb hl => ?_, fun i j b b' k hi hj hbi hbj hli hlj => ?_⟩
 ·rw [getold i hi, freeze_get]
  cases H[i]? <;> simp [hn]
 ·rcases (hFz k).1 f with h | ⟨i, hi, b, hb, hl⟩ | h
  ·exact .inl h
  ·exact .inr (.inr ⟨i, hi, b, (hHp i hi).trans hb, hl⟩)
  ·exact .inr (.inl h.1)
 ·rcases (hFz k).1 f with h | ⟨i, hi, b, hb, hl⟩ | h
  ·have := hH.lt k h; omega
  ·have := (hH.blk i b ((hHp i hi).trans hb)).lies_lt hl; omega
  ·exact hlt k h.2
 ·rcases tch i ht with ⟨hi, hil⟩ | ⟨h1, h2⟩
  ·obtain ⟨e, sz, fl, fz, xs, h, rfl⟩ := oldOf i b hi hb
   have hB := hH.blk i _ ((hHp i hi).trans h)
   have hD := hidD i hi
   cases hB with
   | arr0 e sz fl fz hρ' hz hz0 => exact .arr0 e sz fl true ((hρ _ hD).trans hρ') ((hsz _ hD).trans hz) hz0
   | arr e sz fl fz xs g cap c hρ' hz hz0 hbk hc hl hcap hF hs hfl hcell =>
    refine .arr e sz fl true xs g cap c ((hρ _ hD).trans hρ') ((hsz _ hD).trans hz) hz0 ((hsame g (Array.getElem?_eq_some_iff.1 hbk).1).trans hbk) hc hl hcap ⟨fun _ => rfl, fun _ => (hFz g).2 (.inr (.inl ⟨i, hi, _, h, by rw [hρ']; rfl⟩))⟩ hs hfl
     (fun k d hk => let ⟨v, a, b, c⟩ := hcell k d hk; ⟨v, a, b.keeps hK.fz hK.blk, c⟩)
  ·rw [getnew i h1] at hb
   have := hblk _ b hb
   rwa [show H.length + (i - H.length) = i by omega] at this
 ·rcases tch i ht with ⟨hi, hil⟩ | ⟨h1, h2⟩
  ·obtain ⟨e, sz, fl, fz, xs, h, rfl⟩ := oldOf i b hi hb
   refine .inr ⟨i, hi, _, (hHp i hi).trans h, ?_⟩
   rw [← hρ _ (hidD i hi)]
   generalize C'.ρ i = l at hl ⊢
   cases l <;> exact hl
  ·rw [getnew i h1] at hb
   refine .inl (hlies _ b k hb ?_)
   rwa [show H.length + (i - H.length) = i by omega]
 ·have arrOld : ∀ i b, i ∈ ids → (freeze ids H ++ L)[i]? = some b → Lies b (C'.ρ i) k → ∃ b0, Hp i = some b0 ∧ Lies b0 (C.ρ i) k := fun i b hi hb hl => by
   obtain ⟨e, sz, fl, fz, xs, h, rfl⟩ := oldOf i b hi hb
   refine ⟨_, (hHp i hi).trans h, ?_⟩
   rw [← hρ _ (hidD i hi)]
   generalize C'.ρ i = l at hl ⊢
   cases l <;> exact hl
  rcases tch i hi with ⟨hi, hil⟩ | ⟨h1, h2⟩ <;> rcases tch j hj with ⟨hj, hjl⟩ | ⟨k1, k2⟩
  ·obtain ⟨b0, e1, e2⟩ := arrOld i b hi hbi hli
   obtain ⟨b1, e3, e4⟩ := arrOld j b' hj hbj hlj
   exact hH.inj i j b0 b1 k e1 e3 e2 e4
  ·obtain ⟨b0, e1, e2⟩ := arrOld i b hi hbi hli
   have := (hH.blk i b0 e1).lies_lt e2
   rw [getnew j k1] at hbj
   have := hlies _ b' k hbj (by rwa [show H.length + (j - H.length) = j by omega])
   omega
  ·obtain ⟨b0, e1, e2⟩ := arrOld j b' hj hbj hlj
   have := (hH.blk j b0 e1).lies_lt e2
   rw [getnew i h1] at hbi
   have := hlies _ b k hbi (by rwa [show H.length + (i - H.length) = i by omega])
   omega
  ·rw [getnew i h1] at hbi
   rw [getnew j k1] at hbj
   have := hinj _ _ b b' k hbi hbj (by rwa [show H.length + (i - H.length) = i by omega]) (by rwa [show H.length + (j - H.length) = j by omega])
   omega
end Go.Ax
namespace Go.Ax
set_option linter.unusedSectionVars false
open Go.RowKit
variable [Gls]
variable {id e sz : Nat} {fl fz : Bool} {xs : List Dat}
variable {P : Program} {C C' : Ctx} {w w' : World} {a : Act} {env : Env} {H H' : List Blk} {cf : CallF} {av : AV} {o : Oper} {xo : XOp} {Hp : Nat → Option Blk}
def Runs (P : Program) (o : Oper) (a : Act) (w : World) (v : Value) (w' : World) : Prop :=
 (execOp a.eval o).run P w = .ok (.value v) w' ∨ ((execOp a.eval o).run P w = .ok .skip w' ∧ v = undef)
def MemOk (P : Program) (C : Ctx) (w : World) (a : Act) (o : Oper) (Hp : Nat → Option Blk) (H H' : List Blk) (wr : List Nat) (av : AV) : Prop :=
 ∃ v w' C', Runs P o a w v w' ∧ RV C' w' v av ∧ Local C C' w w' H H' Hp wr
open Classical in
noncomputable def ctxNew (C : Ctx) (H : List Blk) (ids : List Nat) (l : Loc) (sz : Nat) : Ctx where
 ρ i := if i = H.length then l else C.ρ i
 sz i := if i = H.length then sz else C.sz i
 D i := C.D i ∨ i = H.length
 Fz k := C.Fz k ∨ ∃ i ∈ ids, ∃ b, H[i]? = some b ∧ Lies b (C.ρ i) k
theorem ctxNew_keeps (hH : RH C w Hp) (ids : List Nat) (l : Loc) (sz : Nat) (hN : ¬ C.D H.length) (hs : ∀ k, k < w.heap.size → w'.heap[k]? = w.heap[k]?) : Keeps C (ctxNew C H ids l sz) w w' :=
 ⟨fun _ h => .inl h, fun b hb => hs b (hH.lt b hb), fun _ h => .inl h, fun i hi => if_neg (fun e => hN (by rw [← e]; exact hi)), fun i hi => if_neg (fun e => hN (by rw [← e]; exact hi))⟩
theorem Local.new1 (hH : RH C w Hp) (ids : List Nat) (b : Blk) (l : Loc) (sz : Nat) (obj : Obj)
  (hids : ∀ i ∈ ids, ∃ e sz fl fz xs, H[i]? = some (.arr e sz fl fz xs)) (hHp : ∀ i ∈ ids, Hp i = H[i]?) (hN : ¬ C.D H.length)
  (hblk : RB (ctxNew C H ids l sz) (w.alloc obj) H.length b) (hl : ∀ k, Lies b l k → w.heap.size ≤ k) :
  Local C (ctxNew C H ids l sz) w (w.alloc obj) H (freeze ids H ++ [b]) Hp ids := by
 have hs : ∀ k, k < w.heap.size → (w.alloc obj).heap[k]? = w.heap[k]? := fun k hk => heap_alloc_old w obj k hk
 refine Local.ext hH ids [b] (fun _ => False) hids hHp (ctxNew_keeps (w' := w) hH ids l sz hN (fun _ _ => rfl)).rho (ctxNew_keeps (w' := w) hH ids l sz hN (fun _ _ => rfl)).siz
  (fun i => ?_) (fun k => ?_) rfl rfl rfl (by simp) hs (fun _ h => h.elim) (fun j b' hb => ?_) (fun j b' k hb hk => ?_) (fun i j b1 b2 k hi hj _ _ => ?_)
 ·simp only [ctxNew, List.length_cons, List.length_nil]
  constructor
  ·rintro (h | h)
   ·exact .inl h
   ·exact .inr ⟨by omega, by omega⟩
  ·rintro (h | h)
   ·exact .inl h
   ·exact .inr (by omega)
 ·simp only [ctxNew]
  constructor
  ·rintro (h | h)
   ·exact .inl h
   ·exact .inr (.inl h)
  ·rintro (h | h | h)
   ·exact .inl h
   ·exact .inr h
   ·exact h.2.elim
 ·cases j with
  | zero => simp only [List.getElem?_cons_zero, Option.some.injEq] at hb; subst hb; exact hblk
  | succ j => simp at hb
 ·cases j with
  | zero =>
   simp only [List.getElem?_cons_zero, Option.some.injEq] at hb; subst hb
   refine hl k ?_
   simpa [ctxNew] using hk
  | succ j => simp at hb
 ·cases i with
  | zero => cases j with
   | zero => rfl
   | succ j => simp at hj
  | succ i => simp at hi
theorem newBox (hH : RH C w Hp) (hN : ¬ C.D H.length) {cs : List AV} {c : Array Value} {t : TypeId} (hR : RL C w c.toList cs) (h1 : ∀ u ∈ c.toList, u.oneCell' = true) :
  ∃ C', Local C C' w (w.alloc (.cells c t)) H (H ++ [.box cs]) Hp [] ∧ RV C' (w.alloc (.cells c t)) (.pointer (some ⟨w.heap.size, 0, none⟩)) (.ptr H.length 0) := by
 refine ⟨ctxNew C H [] (.box w.heap.size) 0, ?_, .ptr _ _ _ (.inr rfl) (by simp [ctxNew])⟩
 have hK : Keeps C (ctxNew C H [] (.box w.heap.size) 0) w (w.alloc (.cells c t)) := ctxNew_keeps hH _ _ _ hN (fun k hk => heap_alloc_old w _ k hk)
 have := Local.new1 (H := H) hH [] (.box cs) (.box w.heap.size) 0 (.cells c t) (fun i hi => by cases hi) (fun i hi => by cases hi) hN ?_ (fun k hk => by simp only [Lies] at hk; omega)
 ·rwa [freeze_nil] at this
 ·refine .box cs w.heap.size c t (by simp [ctxNew]) (heap_alloc_new w _) (by simpa using hR.1) ?_ (fun j v av hv hav => (hR.2 j v av (by simpa using hv) hav).keeps hK) (fun j v hv => h1 v ?_)
  ·rintro (h | ⟨i, hi, _⟩)
   ·have := hH.lt _ h; omega
   ·cases hi
  ·have hv' : c.toList[j]? = some v := by simpa using hv
   exact List.mem_of_getElem? hv'
theorem alloc_sound {t : TypeId} (hop : o.op = .alloc t) (ht : opT P o = some xo) (he : evalOp cf env H xo = some (av, H')) (hH : RH C w Hp) (hN : ¬ C.D H.length) :
  MemOk P C w a o Hp H H' [] av := by
 simp only [opT, hop, Option.map_eq_some_iff] at ht
 obtain ⟨z, hz, rfl⟩ := ht
 simp only [evalOp, Option.some.injEq, Prod.mk.injEq] at he
 obtain ⟨rfl, rfl⟩ := he
 obtain ⟨i, v, hi, hzv, hR, h1⟩ := zeroC_sound (C := C) (w := w) hz
 obtain ⟨C', hL, hV⟩ := newBox (t := t) hH hN hR h1
 exact ⟨_, _, C', .inl (by simp [execOp, hop, Instr.alloc, run_zero hi hzv, newVar, newRow]), hV, hL⟩
theorem box_sound {t : TypeId} {x : Operand} (hop : o.op = .box t x) (ht : opT P o = some xo) (he : evalOp cf env H xo = some (av, H')) (hE : EnvR C w a env) (hH : RH C w Hp) (hN : ¬ C.D H.length) :
  MemOk P C w a o Hp H H' [] av := by
 simp only [opT, hop, Option.map_eq_some_iff] at ht
 obtain ⟨x', hx, rfl⟩ := ht
 simp only [evalOp] at he
 split at he <;> first | (cases he; done) | skip
 rename_i h1
 simp only [Option.some.injEq, Prod.mk.injEq] at he
 obtain ⟨rfl, rfl⟩ := he
 obtain ⟨hR, hone⟩ := (operand_sound hx hE).cells_one h1
 obtain ⟨C', hL, hV⟩ := newBox (t := t) hH hN hR hone
 exact ⟨_, _, C', .inl (by simp [execOp, hop, Instr.box, newVar, newRow]), hV, hL⟩
theorem arr_getD {c : Array Value} {k : Nat} {u : Value} (h : c[k]? = some u) : c.getD k undef = u := by simp [Array.getD_eq_getD_getElem?, h]
theorem own_RD (hB : RB C w id (.arr e sz fl fz xs)) {off len : Nat} (hle : off + len ≤ xs.length) {F : Nat → Prop} (hF : ∀ k, C.Fz k → F k) (hl : ∀ k, Lies (.arr e sz fl fz xs) (C.ρ id) k → F k) {v : Value}
  (hv : RV C w v (.own id off len)) : RD F w v (.sl sz fl ((xs.drop off).take len)) := by
 have hlen : ((xs.drop off).take len).length = len := by rw [List.length_take, List.length_drop]; omega
 by_cases h0 : len = 0
 ·subst h0
  rw [List.take_zero]
  cases hv <;> exact .sl0 _ _ _ _ (fun h => by first | rfl | cases h)
 cases hB with
 | arr0 => simp at hle; omega
 | arr _ _ _ _ _ g cap c hρ' hz hz0 hbk hc hlx hcap hFz hs hfl hcell =>
  cases hv with
  | own0 => omega
  | own _ _ _ g' cap' hD hρ hle' =>
   rw [hρ] at hρ'; injection hρ' with e1 e2; subst e1; subst e2
   have hsub : ∀ x ∈ (xs.drop off).take len, x ∈ xs := fun x hx => List.mem_of_mem_drop (List.mem_of_mem_take hx)
   have hflat : flatten ((xs.drop off).take len) = ((flatten xs).drop (off * sz)).take (len * sz) := by
    rw [flatten_take (sz := sz) _ (fun x hx => hs x (List.mem_of_mem_drop hx)), flatten_drop _ hs]
   have hget : ∀ (k : Nat) (d : Dat), (flatten ((xs.drop off).take len))[k]? = some d → (flatten xs)[off * sz + k]? = some d := by
    intro k d hk
    rw [hflat, List.getElem?_take] at hk
    split at hk
    ·rwa [List.getElem?_drop] at hk
    ·cases hk
   have := RD.sl (Fz := F) (w := w) ⟨g', off * C.sz id, none⟩ (cap' - off) sz fl ((xs.drop off).take len) (fun k => c.getD (off * sz + k) undef) (fun e => by rw [e] at hlen; simp at hlen; omega)
    (hl g' (by rw [hρ]; rfl)) (by rw [hlen]; omega) (fun x hx => hs x (hsub x hx)) (fun h x hx => hfl h x (hsub x hx)) (fun k d hk => ?_) (fun k d hk => ?_)
   ·rwa [hlen] at this
   ·obtain ⟨u, h1, h2, h3⟩ := hcell _ d (hget k d hk)
    rw [mk_add, hz, cell_of_row w g' _ c _ (0, 0) hbk]
    rw [arr_getD h1]
    exact ⟨h1, h3⟩
   ·obtain ⟨u, h1, h2, h3⟩ := hcell _ d (hget k d hk)
    simp only [arr_getD h1]
    exact h2.keeps hF (fun _ _ => rfl)
mutual
theorem toDat_sound (hH : RH C w Hp) (F : Nat → Prop) (hF : ∀ k, C.Fz k → F k) : ∀ (x : AV) (d : Dat), x.toDat H = some d → (∀ i ∈ x.refs, Hp i = H[i]?) →
  (∀ i ∈ x.refs, ∀ b k, H[i]? = some b → Lies b (C.ρ i) k → F k) → ∀ v, RV C w v x → RD F w v d
 | .dat d', d, h, hHp, hl, v, hv => by
  simp only [AV.toDat, Option.some.injEq] at h; subst h
  cases hv with | dat hv => exact hv.keeps hF (fun _ _ => rfl)
 | .nil e sz fl, d, h, hHp, hl, v, hv => by
  simp only [AV.toDat, Option.some.injEq] at h; subst h
  cases hv; exact .sl0 _ _ _ _ (fun _ => rfl)
 | .own id off len, d, h, hHp, hl, v, hv => by
  simp only [AV.toDat] at h
  split at h <;> first | (cases h; done) | skip
  rename_i e sz fl fz xs hb
  split at h <;> first | (cases h; done) | skip
  rename_i hle
  simp only [Option.some.injEq] at h; subst h
  have hp := (hHp id (by simp [AV.refs])).trans hb
  exact own_RD (hH.blk id _ hp) hle hF (fun k hk => hl id (by simp [AV.refs]) _ k hb hk) hv
 | .agg cs, d, h, hHp, hl, v, hv => by
  simp only [AV.toDat, Option.map_eq_some_iff] at h
  obtain ⟨ds, hds, rfl⟩ := h
  cases hv with
  | agg vs _ hn hc =>
   have := toDatL_sound hH F hF cs ds hds (fun i hi => hHp i (by simpa [AV.refs] using hi)) (fun i hi => hl i (by simpa [AV.refs] using hi)) vs.toList ⟨by simpa using hn, fun j u x hu hx => hc j x u hx (by simpa using hu)⟩
   exact .agg vs ds (by simpa using this.1) (fun j d v hd hv => this.2 j v d (by simpa using hv) hd)
 | .ptr _ _, d, h, _, _, _, _ => by simp [AV.toDat] at h
 | .eptr _ _ _, d, h, _, _, _, _ => by simp [AV.toDat] at h
 | .dptr _, d, h, _, _, _, _ => by simp [AV.toDat] at h
 | .tup _, d, h, _, _, _, _ => by simp [AV.toDat] at h
 | .fn _ _ _, d, h, _, _, _, _ => by simp [AV.toDat] at h
 | .top, d, h, _, _, _, _ => by simp [AV.toDat] at h
theorem toDatL_sound (hH : RH C w Hp) (F : Nat → Prop) (hF : ∀ k, C.Fz k → F k) : ∀ (l : List AV) (ds : List Dat), AV.toDatL H l = some ds → (∀ i ∈ AV.refsL l, Hp i = H[i]?) →
  (∀ i ∈ AV.refsL l, ∀ b k, H[i]? = some b → Lies b (C.ρ i) k → F k) → ∀ us, RL C w us l → us.length = ds.length ∧ ∀ (j : Nat) (u : Value) (d : Dat), us[j]? = some u → ds[j]? = some d → RD F w u d
 | [], ds, h, hHp, hl, us, hR => by
  simp only [AV.toDatL, Option.some.injEq] at h; subst h
  exact ⟨by simpa using hR.1, fun j u d _ hd => by simp at hd⟩
 | x :: l, ds, h, hHp, hl, us, hR => by
  simp only [AV.toDatL] at h
  split at h <;> first | (cases h; done) | skip
  rename_i d hd
  split at h <;> first | (cases h; done) | skip
  rename_i r hr
  simp only [Option.some.injEq] at h; subst h
  cases us with
  | nil => have := hR.1; simp at this
  | cons u us =>
   have h1 := toDat_sound hH F hF x d hd (fun i hi => hHp i (by simp [AV.refsL, hi])) (fun i hi => hl i (by simp [AV.refsL, hi])) u (hR.2 0 u x rfl rfl)
   have h2 := toDatL_sound hH F hF l r hr (fun i hi => hHp i (by simp [AV.refsL, hi])) (fun i hi => hl i (by simp [AV.refsL, hi])) us (by simpa using hR.drop 1)
   refine ⟨by simp [h2.1], fun j v q hv hq => ?_⟩
   cases j with
   | zero => simp at hv hq; subst hv; subst hq; exact h1
   | succ j => exact h2.2 j v q (by simpa using hv) (by simpa using hq)
end
theorem newArr (hH : RH C w Hp) (hN : ¬ C.D H.length) (ids : List Nat) (hids : ∀ i ∈ ids, ∃ e sz fl fz xs, H[i]? = some (.arr e sz fl fz xs)) (hHp : ∀ i ∈ ids, Hp i = H[i]?)
  {c : Array Value} {n cap : Nat} (hz0 : 0 < sz) (hc : c.size = cap * sz) (hn : xs.length = n) (hl : n ≤ cap) (hcap : cap ≤ maxLen) (hs : ∀ x ∈ xs, x.cells.length = sz) (hfl : fl = true → ∀ x ∈ xs, x.flat = true)
  (hcell : ∀ (k : Nat) (d : Dat), (flatten xs)[k]? = some d → ∃ v : Value, c[k]? = some v ∧ RD (fun k => C.Fz k ∨ ∃ i ∈ ids, ∃ b, H[i]? = some b ∧ Lies b (C.ρ i) k) w v d ∧ v.oneCell' = true) :
  ∃ C', Local C C' w (w.alloc (.cells c e)) H (freeze ids H ++ [.arr e sz fl false xs]) Hp ids ∧ RV C' (w.alloc (.cells c e)) (.slice (some ⟨w.heap.size, 0, none⟩) n cap) (.own H.length 0 n) := by
 have hK : Keeps C (ctxNew C H ids (.arr w.heap.size cap) sz) w (w.alloc (.cells c e)) := ctxNew_keeps hH _ _ _ hN (fun k hk => heap_alloc_old w _ k hk)
 refine ⟨ctxNew C H ids (.arr w.heap.size cap) sz, ?_, ?_⟩
 ·have hltF : ∀ k, (C.Fz k ∨ ∃ i ∈ ids, ∃ b, H[i]? = some b ∧ Lies b (C.ρ i) k) → k < w.heap.size := by
   rintro k (h | ⟨i, hi, b, hb, hl⟩)
   ·exact hH.lt _ h
   ·exact (hH.blk i b ((hHp i hi).trans hb)).lies_lt hl
  refine Local.new1 (H := H) hH ids _ (.arr w.heap.size cap) sz (.cells c e) hids hHp hN ?_ (fun k hk => by simp only [Lies] at hk; omega)
  refine .arr e sz fl false xs w.heap.size cap c (by simp [ctxNew]) (by simp [ctxNew]) hz0 (heap_alloc_new w _) hc (by omega) hcap ⟨fun h => ?_, fun h => by cases h⟩ hs hfl (fun k d hk => ?_)
  ·exact absurd (hltF _ h) (by omega)
  ·obtain ⟨v, h1, h2, h3⟩ := hcell k d hk
   exact ⟨v, h1, h2.keeps (fun _ h => h) (fun b hb => heap_alloc_old w _ b (hltF b hb)), h3⟩
 ·have := RV.own (C := ctxNew C H ids (.arr w.heap.size cap) sz) (w := w.alloc (.cells c e)) H.length 0 n w.heap.size cap (.inr rfl) (by simp [ctxNew]) (by omega)
  simpa using this
theorem chunks_cells {z : Nat} : ∀ (n : Nat) (ds : List Dat), ds.length = n * z → (∀ d ∈ ds, d.leaf = true) → 0 < z → (∀ x ∈ chunks z n ds, x.cells.length = z) ∧ flatten (chunks z n ds) = ds ∧ (chunks z n ds).length = n
 | 0, ds, h, _, _ => by
  have : ds = [] := List.eq_nil_of_length_eq_zero (by omega)
  subst this
  exact ⟨fun x hx => (by cases hx), rfl, rfl⟩
 | n + 1, ds, h, hl, hz => by
  rw [Nat.succ_mul] at h
  obtain ⟨h1, h2, h3⟩ := chunks_cells n (ds.drop z) (by rw [List.length_drop]; omega) (fun d hd => hl d (List.mem_of_mem_drop hd)) hz
  have hfirst : (if z = 1 then ds.headD default else Dat.agg (ds.take z)).cells = ds.take z := by
   split
   ·rename_i h1; subst h1
    cases ds with
    | nil => simp at h
    | cons d ds =>
     have := hl d List.mem_cons_self
     cases d <;> first | rfl | (simp [Dat.leaf] at this; done)
   ·rfl
  refine ⟨fun x hx => ?_, ?_, by simp [chunks, h3]⟩
  ·rcases List.mem_cons.1 hx with rfl | hx
   ·rw [hfirst, List.length_take]; omega
   ·exact h1 x hx
  ·rw [chunks, flatten_cons, hfirst, h2, List.take_append_drop]
theorem leaf_of_one {F : Nat → Prop} {v : Value} {d : Dat} (h : RD F w v d) (h1 : v.oneCell' = true) : d.leaf = true := by
 cases h <;> first | rfl | (simp [Value.oneCell'] at h1; done)
theorem flats_mem : ∀ {ds : List Dat}, Dat.flats ds = true → ∀ d ∈ ds, d.flat = true
 | d :: ds, h, x, hx => by
  simp only [Dat.flats, Bool.and_eq_true] at h
  rcases List.mem_cons.1 hx with rfl | hx
  ·exact h.1
  ·exact flats_mem h.2 x hx
theorem flats_of : ∀ {ds : List Dat}, (∀ d ∈ ds, d.flat = true) → Dat.flats ds = true
 | [], _ => rfl
 | d :: ds, h => by simp only [Dat.flats, Bool.and_eq_true]; exact ⟨h d List.mem_cons_self, flats_of (fun x hx => h x (List.mem_cons_of_mem _ hx))⟩
theorem flat_of_cells {x : Dat} (h : ∀ d ∈ x.cells, d.flat = true) : x.flat = true := by
 cases x with
 | agg cs => simp only [Dat.flat]; exact flats_of h
 | _ => exact h _ (by simp [Dat.cells])
theorem chunks_flat {z : Nat} : ∀ (n : Nat) (ds : List Dat), (∀ d ∈ ds, d.flat = true) → ds.length = n * z → 0 < z → ∀ x ∈ chunks z n ds, x.flat = true
 | 0, _, _, _, _, x, hx => by cases hx
 | n + 1, ds, h, hl, hz, x, hx => by
  rw [Nat.succ_mul] at hl
  rcases List.mem_cons.1 hx with rfl | hx
  ·split
   ·cases ds with
    | nil => simp at hl; omega
    | cons d ds => exact h d List.mem_cons_self
   ·simp only [Dat.flat]; exact flats_of (fun d hd => h d (List.mem_of_mem_take hd))
  ·exact chunks_flat n (ds.drop z) (fun d hd => h d (List.mem_of_mem_drop hd)) (by rw [List.length_drop]; omega) hz x hx
theorem getElem?_rep {α : Type} (l : List α) : ∀ (n k : Nat), ((List.replicate n l).flatten)[k]? = if k < n * l.length then l[k % l.length]? else none
 | 0, k => by simp
 | n + 1, k => by
  rw [List.replicate_succ, List.flatten_cons, Nat.succ_mul]
  by_cases h : k < l.length
  ·rw [List.getElem?_append_left h, if_pos (by omega), Nat.mod_eq_of_lt h]
  ·rw [List.getElem?_append_right (by omega), getElem?_rep l n]
   by_cases h2 : k < n * l.length + l.length
   ·rw [if_pos (by omega), if_pos h2, ← Nat.mod_eq_sub_mod (by omega)]
   ·rw [if_neg (by omega), if_neg h2]
theorem made_list (z : Array Value) (n : Nat) : ((Array.range (n * z.size)).map (z[· % z.size]!)).toList = (List.replicate n z.toList).flatten := by
 apply List.ext_getElem?
 intro k
 rw [getElem?_rep]
 by_cases h : k < n * z.size
 ·have hz : 0 < z.size := by
   rcases Nat.eq_zero_or_pos z.size with h0 | h0
   ·rw [h0] at h; simp at h
   ·exact h0
  have hm : k % z.size < z.size := Nat.mod_lt _ hz
  simp [h, hm]
 ·simp [h]
theorem RL_rep {us : List Value} {l : List AV} (h : RL C w us l) (n : Nat) : RL C w ((List.replicate n us).flatten) ((List.replicate n l).flatten) := by
 induction n with
 | zero => simpa using RL.nil
 | succ n ih => rw [List.replicate_succ, List.replicate_succ, List.flatten_cons, List.flatten_cons]; exact h.append ih
mutual
theorem toDat_nil (H : List Blk) : ∀ (x : AV) (d : Dat), x.toDat [] = some d → x.toDat H = some d ∧ x.refs = []
 | .dat d', d, h => ⟨h, rfl⟩
 | .nil e sz fl, d, h => ⟨h, rfl⟩
 | .own id off len, d, h => by simp [AV.toDat] at h
 | .agg cs, d, h => by
  simp only [AV.toDat, Option.map_eq_some_iff] at h
  obtain ⟨ds, hds, rfl⟩ := h
  obtain ⟨h1, h2⟩ := toDatL_nil H cs ds hds
  exact ⟨by simp [AV.toDat, h1], by simpa [AV.refs] using h2⟩
 | .ptr _ _, d, h => by simp [AV.toDat] at h
 | .eptr _ _ _, d, h => by simp [AV.toDat] at h
 | .dptr _, d, h => by simp [AV.toDat] at h
 | .tup _, d, h => by simp [AV.toDat] at h
 | .fn _ _ _, d, h => by simp [AV.toDat] at h
 | .top, d, h => by simp [AV.toDat] at h
theorem toDatL_nil (H : List Blk) : ∀ (l : List AV) (ds : List Dat), AV.toDatL [] l = some ds → AV.toDatL H l = some ds ∧ AV.refsL l = []
 | [], ds, h => ⟨h, rfl⟩
 | x :: l, ds, h => by
  simp only [AV.toDatL] at h
  split at h <;> first | (cases h; done) | skip
  rename_i d hd
  split at h <;> first | (cases h; done) | skip
  rename_i r hr
  obtain ⟨h1, h2⟩ := toDat_nil H x d hd
  obtain ⟨h3, h4⟩ := toDatL_nil H l r hr
  exact ⟨by simp [AV.toDatL, h1, h3]; simpa using h, by simp [AV.refsL, h2, h4]⟩
end
theorem elem_cells {z : Nat} {ds : List Dat} (h : ds.length = z) (hl : ∀ d ∈ ds, d.leaf = true) (hz : 0 < z) : (if z = 1 then ds.headD default else Dat.agg ds).cells = ds := by
 split
 ·rename_i h1; subst h1
  cases ds with
  | nil => simp at h
  | cons d r => cases r with
   | nil =>
    have := hl d List.mem_cons_self
    cases d <;> first | rfl | (simp [Dat.leaf] at this; done)
   | cons _ _ => simp at h
 ·rfl
theorem flatten_replicate (x : Dat) (n : Nat) : flatten (List.replicate n x) = (List.replicate n x.cells).flatten := by
 induction n with
 | zero => rfl
 | succ n ih => rw [List.replicate_succ, flatten_cons, ih, List.replicate_succ, List.flatten_cons]
theorem maxLen_eq : maxLen = 9223372036854775807 := by unfold maxLen; rfl
theorem mksl_sound {t : TypeId} {l c : Operand} (hop : o.op = .makeSlice t l c) (ht : opT P o = some xo) (he : evalOp cf env H xo = some (av, H')) (hE : EnvR C w a env) (hH : RH C w Hp) (hN : ¬ C.D H.length) :
  MemOk P C w a o Hp H H' [] av := by
 simp only [opT, hop] at ht
 split at ht <;> first | (cases ht; done) | skip
 rename_i el hu
 simp only [Option.bind_eq_bind, Option.bind_eq_some_iff] at ht
 obtain ⟨z, hz, ht⟩ := ht
 split at ht <;> first | (cases ht; done) | skip
 rename_i hcond
 obtain ⟨hzl, hbytes⟩ := hcond
 simp only [Option.bind_eq_some_iff, Option.some.injEq] at ht
 obtain ⟨l', hl, c', hc, rfl⟩ := ht
 have Rl := operand_sound hl hE
 have Rc := operand_sound hc hE
 generalize hvl : a.eval l = vl at Rl
 generalize hvc : a.eval c = vc at Rc
 simp only [evalOp] at he
 split at he <;> first | (cases he; done) | skip
 rename_i k1 n k2 m e1 e2
 rw [e1] at Rl; rw [e2] at Rc
 split at he <;> first | (cases he; done) | skip
 rename_i hb
 obtain ⟨hb1, hb2, hb3⟩ := hb
 split at he <;> first | (cases he; done) | skip
 rename_i ds hds
 split at he <;> first | (cases he; done) | skip
 rename_i hsz
 obtain ⟨hsz, hsz0⟩ := hsz
 simp only [Option.some.injEq, Prod.mk.injEq] at he; obtain ⟨rfl, rfl⟩ := he
 obtain ⟨i, zv, hi, hzv, hRz, h1⟩ := zeroC_sound (C := C) (w := w) hz
 have hisz : i.size = P.cellsOf el := by simp [Program.cellsOf, hi]
 have hiby : i.bytes = P.bytesOf el := by simp [Program.bytesOf, hi]
 cases Rl with | dat Rl => cases Rl; cases Rc with | dat Rc => cases Rc; (
  have hr := run_make (P := P) w t el i zv hu hi hzv k1 k2 n m hb1 hb2 (by
   rw [hiby]
   have : (P.bytesOf el : Int) * m ≤ 65536 * 4294967296 := Int.mul_le_mul (by omega) (by simp [LIM] at hb3; omega) (by omega) (by omega)
   omega) (by simp [LIM] at hb3; omega)
  obtain ⟨hds', hrefs⟩ := toDatL_nil H z ds hds
  obtain ⟨hd1, hd2⟩ := toDatL_sound hH C.Fz (fun _ h => h) z ds hds' (fun i hi => by rw [hrefs] at hi; cases hi) (fun i hi => by rw [hrefs] at hi; cases hi) zv.cells.toList hRz
  have hleaf : ∀ d ∈ ds, d.leaf = true := fun d hd => by
   obtain ⟨j, hj, rfl⟩ := List.mem_iff_getElem.1 hd
   have hj' : j < zv.cells.toList.length := by omega
   exact leaf_of_one (hd2 j _ _ (List.getElem?_eq_getElem hj') (List.getElem?_eq_getElem hj)) (h1 _ (List.getElem_mem hj'))
  have hzs : zv.cells.size = i.size := by
   have := hRz.1; simp only [Array.length_toList] at this; omega
  have hcells := elem_cells hsz hleaf hsz0
  have key := newArr (e := el) (sz := P.cellsOf el) (fl := Dat.flats ds) (xs := List.replicate n.toNat (if P.cellsOf el = 1 then ds.headD default else .agg ds)) hH hN [] (fun i hi => by cases hi) (fun i hi => by cases hi)
   (c := madeCells zv.cells (m.toNat * i.size)) (n := n.toNat) (cap := m.toNat) hsz0 (by rw [size_madeCells, hisz]) (by simp) (by omega) (by rw [maxLen_eq]; simp [LIM] at hb3; omega)
   (fun x hx => by rw [List.eq_of_mem_replicate hx, hcells, hsz]) (fun hf x hx => by
    rw [List.eq_of_mem_replicate hx]; apply flat_of_cells; rw [hcells]; exact flats_mem hf) (fun k d hk => by
    rw [flatten_replicate, hcells, getElem?_rep] at hk
    split at hk <;> first | (cases hk; done) | skip
    rename_i hlt
    have hj : k % ds.length < zv.cells.toList.length := by rw [hd1]; exact Nat.mod_lt _ (by omega)
    refine ⟨zv.cells.toList[k % ds.length], ?_, (hd2 _ _ _ (List.getElem?_eq_getElem hj) hk).keeps (fun _ h => .inl h) (fun _ _ => rfl), h1 _ (List.getElem_mem hj)⟩
    have hml := made_list zv.cells m.toNat
    have hlist : (madeCells zv.cells (m.toNat * i.size))[k]? = ((List.replicate m.toNat zv.cells.toList).flatten)[k]? := by
     rw [← hml, ← Array.getElem?_toList, ← hzs]; rfl
    rw [hlist, getElem?_rep, if_pos (by
     have : n.toNat * ds.length ≤ m.toNat * ds.length := Nat.mul_le_mul_right _ (by omega)
     rw [hd1]; omega), hd1, List.getElem?_eq_getElem])
  obtain ⟨C', hL, hV⟩ := key
  rw [freeze_nil] at hL
  exact ⟨_, _, C', .inl (by simp only [execOp, hop, hvl, hvc, Sem.run_bind, hr]; rfl), hV, hL⟩)
mutual
theorem toDat_refs : ∀ (x : AV) (d : Dat), x.toDat H = some d → ∀ i ∈ x.refs, ∃ e sz fl fz xs, H[i]? = some (.arr e sz fl fz xs)
 | .dat d', d, h, i, hi => by cases hi
 | .nil e sz fl, d, h, i, hi => by cases hi
 | .own id off len, d, h, i, hi => by
  simp only [AV.refs, List.mem_singleton] at hi; subst hi
  simp only [AV.toDat] at h
  split at h <;> first | (cases h; done) | skip
  rename_i e sz fl fz xs hb
  exact ⟨e, sz, fl, fz, xs, hb⟩
 | .agg cs, d, h, i, hi => by
  simp only [AV.toDat, Option.map_eq_some_iff] at h
  obtain ⟨ds, hds, rfl⟩ := h
  exact toDatL_refs cs ds hds i (by simpa [AV.refs] using hi)
 | .ptr _ _, d, h, i, hi => by simp [AV.toDat] at h
 | .eptr _ _ _, d, h, i, hi => by simp [AV.toDat] at h
 | .dptr _, d, h, i, hi => by simp [AV.toDat] at h
 | .tup _, d, h, i, hi => by simp [AV.toDat] at h
 | .fn _ _ _, d, h, i, hi => by simp [AV.toDat] at h
 | .top, d, h, i, hi => by simp [AV.toDat] at h
theorem toDatL_refs : ∀ (l : List AV) (ds : List Dat), AV.toDatL H l = some ds → ∀ i ∈ AV.refsL l, ∃ e sz fl fz xs, H[i]? = some (.arr e sz fl fz xs)
 | [], ds, h, i, hi => by cases hi
 | x :: l, ds, h, i, hi => by
  simp only [AV.toDatL] at h
  split at h <;> first | (cases h; done) | skip
  rename_i d hd
  split at h <;> first | (cases h; done) | skip
  rename_i r hr
  rcases List.mem_append.1 (by simpa [AV.refsL] using hi : i ∈ x.refs ++ AV.refsL l) with hi | hi
  ·exact toDat_refs x d hd i hi
  ·exact toDatL_refs l r hr i hi
end
theorem bsl_sound {t : TypeId} {n : Nat} {ps : Array (Nat × Operand)} (hop : o.op = .buildSlice t n ps) (ht : opT P o = some xo) (he : evalOp cf env H xo = some (av, H')) (hE : EnvR C w a env) (hH : RH C w Hp) (hN : ¬ C.D H.length)
  (hT : ∀ id ∈ (touched env H xo).1, Hp id = H[id]?) : MemOk P C w a o Hp H H' (touched env H xo).2 av := by
 simp only [opT, hop] at ht
 split at ht <;> first | (cases ht; done) | skip
 rename_i el hu
 simp only [Option.bind_eq_bind, Option.bind_eq_some_iff] at ht
 obtain ⟨z, hz, l, hl, ht⟩ := ht
 split at ht <;> first | (cases ht; done) | skip
 rename_i hcond
 obtain ⟨hzl, hcells⟩ := hcond
 simp only [Option.some.injEq] at ht; subst ht
 simp only [evalOp] at he
 split at he <;> first | (cases he; done) | skip
 rename_i cs hcs
 split at he <;> first | (cases he; done) | skip
 rename_i ds hds
 split at he <;> first | (cases he; done) | skip
 rename_i hsz
 obtain ⟨hsz, hsz0⟩ := hsz
 simp only [Option.some.injEq, Prod.mk.injEq] at he; obtain ⟨rfl, rfl⟩ := he
 obtain ⟨i, zv, hi, hzv, hRz, h1⟩ := zeroC_sound (C := C) (w := w) hz
 have hzs : zv.cells.size = P.cellsOf el := by
  have := hRz.1; simp only [Array.length_toList] at this; omega
 have hisz : i.size = P.cellsOf el := by simp [Program.cellsOf, hi]
 simp only [touched, hcs] at hT ⊢
 have hf := listM_forall hl
 have hfo : F2 (PartOk a C w env (fun k => some (k * P.cellsOf el, P.cellsOf el))) ps.toList l := by
  refine F2.imp hf (fun p q hpq => ?_)
  simp only [Option.bind_eq_some_iff, Option.some.injEq] at hpq
  obtain ⟨x, hx, rfl⟩ := hpq
  exact ⟨rfl, operand_sound hx hE⟩
 have hbase : RL C w ((Array.range (n * P.cellsOf el)).map (zv.cells[· % zv.cells.size]!)).toList ((List.replicate n z).flatten) := by
  rw [← hzs, made_list]; exact RL_rep hRz n
 have hbase1 : ∀ u ∈ ((Array.range (n * P.cellsOf el)).map (zv.cells[· % zv.cells.size]!)).toList, u.oneCell' = true := by
  rw [← hzs, made_list]
  intro u hu
  rw [List.mem_flatten] at hu
  obtain ⟨m, hm, hu⟩ := hu
  rw [List.eq_of_mem_replicate hm] at hu
  exact h1 u hu
 obtain ⟨us', e1, e2, e3, e4⟩ := fill_sound hfo hbase hcs hbase1
 have hlies : ∀ i ∈ AV.refsL cs, ∀ b k, H[i]? = some b → Lies b (C.ρ i) k → (fun k => C.Fz k ∨ ∃ i ∈ AV.refsL cs, ∃ b, H[i]? = some b ∧ Lies b (C.ρ i) k) k := fun i hi b k hb hk => .inr ⟨i, hi, b, hb, hk⟩
 obtain ⟨hd1, hd2⟩ := toDatL_sound hH (fun k => C.Fz k ∨ ∃ i ∈ AV.refsL cs, ∃ b, H[i]? = some b ∧ Lies b (C.ρ i) k) (fun _ h => .inl h) cs ds hds hT hlies us'.toList e2
 have hleaf : ∀ d ∈ ds, d.leaf = true := fun d hd => by
  obtain ⟨j, hj, rfl⟩ := List.mem_iff_getElem.1 hd
  have hj' : j < us'.toList.length := by omega
  exact leaf_of_one (hd2 j _ _ (List.getElem?_eq_getElem hj') (List.getElem?_eq_getElem hj)) (e3 _ (List.getElem_mem hj'))
 obtain ⟨hc1, hc2, hc3⟩ := chunks_cells n ds hsz hleaf hsz0
 have hus : us'.size = n * P.cellsOf el := by rw [← hsz, ← hd1]; simp
 have hn : n ≤ 16777216 := by
  have : n * 1 ≤ n * P.cellsOf el := Nat.mul_le_mul_left _ hsz0
  omega
 obtain ⟨C', hL, hV⟩ := newArr (e := el) (sz := P.cellsOf el) (fl := Dat.flats ds) (xs := chunks (P.cellsOf el) n ds) hH hN (AV.refsL cs) (toDatL_refs cs ds hds) hT
  (c := us') (n := n) (cap := n) hsz0 hus hc3 (Nat.le_refl _) (by rw [maxLen_eq]; omega) hc1 (fun hf x hx => chunks_flat n ds (flats_mem hf) hsz hsz0 x hx) (fun k d hk => by
   rw [hc2] at hk
   have hj : k < us'.toList.length := by rw [hd1]; exact (List.getElem?_eq_some_iff.1 hk).1
   exact ⟨us'.toList[k], by rw [← Array.getElem?_toList, List.getElem?_eq_getElem hj], hd2 _ _ _ (List.getElem?_eq_getElem hj) hk, e3 _ (List.getElem_mem hj)⟩)
 refine ⟨_, _, C', .inl ?_, hV, hL⟩
 have hszr : (sizeOf el).run P w = .ok (P.cellsOf el) w := run_sizeOf w hi
 have e1' : Instr.fill (fun i => some (i * P.cellsOf el, P.cellsOf el)) ((Array.range (n * P.cellsOf el)).map (zv.cells[· % zv.cells.size]!)) (ps.map fun x => (x.1, a.eval x.2)).toList = some us' := by
  rw [Array.toList_map]; exact e1
 by_cases h0 : n * P.cellsOf el = 0
 ·have hz2 : ((Array.range 0).map ((#[] : Array Value)[· % (#[] : Array Value).size]!)) = ((Array.range (n * P.cellsOf el)).map (zv.cells[· % zv.cells.size]!)) := by rw [h0]; simp [Array.range_zero']
  rw [← hz2] at e1'
  simp only [execOp, hop, Instr.buildSlice, Sem.run_bind, run_underlying hu, Result.andThen_ok, hszr, Sem.run_ite, if_neg (by omega : ¬ n * P.cellsOf el > 2 ^ 24), if_pos h0, Sem.run_pure]
  simp only [h0] at e1' ⊢
  simp only [e1', newRow, Sem.run_bind, run_newObj, Result.andThen_ok, Sem.run_pure]
  rfl
 ·simp only [execOp, hop, Instr.buildSlice, Sem.run_bind, run_underlying hu, Result.andThen_ok, hszr, Sem.run_ite, if_neg (by omega : ¬ n * P.cellsOf el > 2 ^ 24), if_neg h0, Sem.run_pure, run_zero hi hzv]
  simp only [e1', newRow, Sem.run_bind, run_newObj, Result.andThen_ok, Sem.run_pure]
  rfl
end Go.Ax
namespace Go.Ax
set_option linter.unusedSectionVars false
open Go.RowKit
variable [Gls]
variable {P : Program} {C C' : Ctx} {w w' : World} {a : Act} {env : Env} {H H' : List Blk} {cf : CallF} {av : AV} {o : Oper} {xo : XOp} {Hp : Nat → Option Blk} {wr : List Nat}
def ctxFz (C : Ctx) (H : List Blk) (ids : List Nat) : Ctx := { C with Fz := fun k => C.Fz k ∨ ∃ i ∈ ids, ∃ b, H[i]? = some b ∧ Lies b (C.ρ i) k }
theorem Local.turn (hH : RH C w Hp) {id g : Nat} {b0 b' : Blk} (ids : List Nat) (hid : H[id]? = some b0) (hpid : Hp id = H[id]?) (hni : id ∉ ids) (hw : Writes b0 (C.ρ id) g)
  (hids : ∀ i ∈ ids, ∃ e sz fl fz xs, H[i]? = some (.arr e sz fl fz xs)) (hHp : ∀ i ∈ ids, Hp i = H[i]?)
  (hos : w'.os = w.os) (htape : w'.tape = w.tape) (hout : w'.output = w.output) (hsize : w'.heap.size = w.heap.size) (hsame : ∀ k, k ≠ g → w'.heap[k]? = w.heap[k]?)
  (hblk : RB (ctxFz C H ids) w' id b') (hlies : ∀ k, Lies b' (C.ρ id) k → Lies b0 (C.ρ id) k) :
  Local C (ctxFz C H ids) w w' H ((freeze ids H).set id b') Hp (id :: ids) := by
 have hgF : ¬ C.Fz g := by
  have hB := hH.blk id b0 (hpid.trans hid)
  intro hg
  cases hB with
  | box cs b c t hρ hb hn hF h h1 => rw [hρ] at hw; simp only [Writes] at hw; subst hw; exact hF hg
  | arr0 e sz fl fz hρ => rw [hρ] at hw; exact hw
  | arr e sz fl fz xs g' cap c hρ hz hz0 hbk hc hl hcap hF => rw [hρ] at hw; simp only [Writes] at hw; obtain ⟨h1, rfl⟩ := hw; rw [hF.1 hg] at h1; cases h1
  | mp l b es ck hρ hb hF => rw [hρ] at hw; simp only [Writes] at hw; subst hw; exact hF hg
  | dead => exact hw
 have hidlt : id < H.length := (List.getElem?_eq_some_iff.1 hid).1
 have hidD : ∀ i ∈ ids, C.D i := fun i hi => by
  obtain ⟨e, sz, fl, fz, xs, h⟩ := hids i hi
  exact hH.dom i _ ((hHp i hi).trans h)
 have hilt : ∀ i ∈ ids, i < H.length := fun i hi => by
  obtain ⟨e, sz, fl, fz, xs, h⟩ := hids i hi
  exact (List.getElem?_eq_some_iff.1 h).1
 have hlen : ((freeze ids H).set id b').length = H.length := by rw [List.length_set, freeze_length]
 have hne : ∀ i ∈ ids, i ≠ id := fun i hi e => hni (e ▸ hi)
 have hFg : ∀ i ∈ ids, ∀ b, H[i]? = some b → ¬ Lies b (C.ρ i) g := fun i hi b hb hl => by
  have := hH.inj i id b b0 g ((hHp i hi).trans hb) (hpid.trans hid) hl hw.lies
  exact hne i hi this
 have hK : Keeps C (ctxFz C H ids) w w' := ⟨fun _ h => .inl h, fun k hk => hsame k (fun e => hgF (e ▸ hk)), fun _ h => h, fun _ _ => rfl, fun _ _ => rfl⟩
 have getid : ((freeze ids H).set id b')[id]? = some b' := by rw [List.getElem?_set_self (by rw [freeze_length]; exact hidlt)]
 have getne : ∀ i, i ≠ id → ((freeze ids H).set id b')[i]? = (freeze ids H)[i]? := fun i hi => List.getElem?_set_ne (Ne.symm hi)
 have tch : ∀ i, Tch H ((freeze ids H).set id b') (id :: ids) i → i = id ∨ i ∈ ids := fun i hi => by
  rcases hi with hi | hi
  ·rcases List.mem_cons.1 hi with hi | hi
   ·exact .inl hi
   ·exact .inr hi
  ·rw [hlen] at hi; omega
 have oldOf : ∀ i b, i ∈ ids → ((freeze ids H).set id b')[i]? = some b → ∃ e sz fl fz xs, H[i]? = some (.arr e sz fl fz xs) ∧ b = .arr e sz fl true xs := fun i b hi hb => by
  obtain ⟨e, sz, fl, fz, xs, h⟩ := hids i hi
  rw [getne i (hne i hi), freeze_get, h] at hb
  have hc : ids.contains i = true := List.contains_iff_mem.2 hi
  simp only [Option.map_some, hc, if_true, freeze1, Option.some.injEq] at hb
  exact ⟨e, sz, fl, fz, xs, h, hb.symm⟩
 have liesOld : ∀ i b k, i ∈ ids → ((freeze ids H).set id b')[i]? = some b → Lies b (C.ρ i) k → ∃ b0, Hp i = some b0 ∧ Lies b0 (C.ρ i) k := fun i b k hi hb hl => by
  obtain ⟨e, sz, fl, fz, xs, h, rfl⟩ := oldOf i b hi hb
  refine ⟨_, (hHp i hi).trans h, ?_⟩
  generalize C.ρ i = l at hl ⊢
  cases l <;> exact hl
 refine ⟨hK, hos, htape, hout, by omega, by omega, fun i hi hn => ?_, fun k hk => ?_, fun k f => ?_, fun k f => ?_, fun i hi => ?_, fun i => ?_, fun i b ht hb => ?_, fun i b k ht hb hl => ?_, fun i j b b2 k hi hj hbi hbj hli hlj => ?_⟩
 ·rw [List.mem_cons, not_or] at hn
  rw [getne i hn.1, freeze_get]
  cases H[i]? <;> simp [hn.2]
 ·by_cases e : k = g
  ·subst e; exact .inr ⟨id, List.mem_cons_self, b0, hpid.trans hid, hw⟩
  ·exact .inl (hsame k e)
 ·rcases f with h | ⟨i, hi, b, hb, hl⟩
  ·exact .inl h
  ·exact .inr (.inr ⟨i, List.mem_cons_of_mem _ hi, b, (hHp i hi).trans hb, hl⟩)
 ·rcases f with h | ⟨i, hi, b, hb, hl⟩
  ·rw [hsize]; exact hH.lt k h
  ·rw [hsize]; exact (hH.blk i b ((hHp i hi).trans hb)).lies_lt hl
 ·rcases List.mem_cons.1 hi with rfl | hi
  ·exact hH.dom _ _ (hpid.trans hid)
  ·exact hidD i hi
 ·rw [hlen]
  exact ⟨fun h => .inl h, fun h => h.resolve_right (by omega)⟩
 ·rcases tch i ht with rfl | hi
  ·rw [getid] at hb; injection hb with hb; subst hb; exact hblk
  ·obtain ⟨e, sz, fl, fz, xs, h, rfl⟩ := oldOf i b hi hb
   have hB := hH.blk i _ ((hHp i hi).trans h)
   cases hB with
   | arr0 e sz fl fz hρ' hz hz0 => exact .arr0 e sz fl true hρ' hz hz0
   | arr e sz fl fz xs g' cap c hρ' hz hz0 hbk hc hl hcap hF hs hfl hcell =>
    have hgg : g' ≠ g := fun e => hFg i hi _ h (by rw [hρ', e]; rfl)
    refine .arr e sz fl true xs g' cap c hρ' hz hz0 ((hsame g' hgg).trans hbk) hc hl hcap ⟨fun _ => rfl, fun _ => .inr ⟨i, hi, _, h, by rw [hρ']; rfl⟩⟩ hs hfl
     (fun k d hk => let ⟨v, a, b, c⟩ := hcell k d hk; ⟨v, a, b.keeps hK.fz hK.blk, c⟩)
 ·rcases tch i ht with rfl | hi
  ·rw [getid] at hb; injection hb with hb; subst hb
   exact .inr ⟨i, List.mem_cons_self, b0, hpid.trans hid, hlies k hl⟩
  ·obtain ⟨b1, e1, e2⟩ := liesOld i b k hi hb hl
   exact .inr ⟨i, List.mem_cons_of_mem _ hi, b1, e1, e2⟩
 ·have one : ∀ i b, Tch H ((freeze ids H).set id b') (id :: ids) i → ((freeze ids H).set id b')[i]? = some b → Lies b (C.ρ i) k → ∃ b0, Hp i = some b0 ∧ Lies b0 (C.ρ i) k := fun i b ht hb hl => by
   rcases tch i ht with rfl | hi
   ·rw [getid] at hb; injection hb with hb; subst hb
    exact ⟨b0, hpid.trans hid, hlies k hl⟩
   ·exact liesOld i b k hi hb hl
  obtain ⟨c1, e1, e2⟩ := one i b hi hbi hli
  obtain ⟨c2, e3, e4⟩ := one j b2 hj hbj hlj
  exact hH.inj i j c1 c2 k e1 e3 e2 e4
theorem flatten_set {z : Nat} {xs : List Dat} {i : Nat} {d0 e : Dat} (hs : ∀ x ∈ xs, x.cells.length = z) (hd : xs[i]? = some d0) {off : Nat} {ds : List Dat} (hle : off + ds.length ≤ d0.cells.length)
  (he : e.cells = d0.cells.take off ++ ds ++ d0.cells.drop (off + ds.length)) : flatten (xs.set i e) = (flatten xs).take (i * z + off) ++ ds ++ (flatten xs).drop (i * z + off + ds.length) := by
 have hi := (List.getElem?_eq_some_iff.1 hd).1
 have hdi := (List.getElem?_eq_some_iff.1 hd).2
 have hz : d0.cells.length = z := hs d0 (List.mem_of_getElem? hd)
 have hx : xs = xs.take i ++ d0 :: xs.drop (i + 1) := by rw [← hdi, ← List.drop_eq_getElem_cons hi, List.take_append_drop]
 have hA : (flatten (xs.take i)).length = i * z := by
  rw [flatten_length (sz := z) (fun x hx => hs x (List.mem_of_mem_take hx)), List.length_take]; congr 1; omega
 rw [List.set_eq_take_append_cons_drop, if_pos hi, flatten_append, flatten_cons, he]
 have hfx : flatten xs = flatten (xs.take i) ++ (d0.cells ++ flatten (xs.drop (i + 1))) := by rw [← flatten_cons, ← flatten_append, ← hx]
 rw [hfx]
 generalize flatten (xs.take i) = A at hA
 generalize flatten (xs.drop (i + 1)) = B
 rw [List.take_append, List.take_of_length_le (l := A) (by omega), hA, show i * z + off - i * z = off by omega, List.take_append, show off - d0.cells.length = 0 by omega, List.take_zero, List.append_nil]
 rw [List.drop_append, List.drop_eq_nil_of_le (by omega : A.length ≤ i * z + off + ds.length), hA, List.nil_append, show i * z + off + ds.length - i * z = off + ds.length by omega, List.drop_append, show off + ds.length - d0.cells.length = 0 by omega, List.drop_zero]
 simp
theorem run_storeAt {t : TypeId} {d : TypeDesc} (hu : P.underlying t = some d) {g off : Nat} {c : Array Value} {te : TypeId} (hb : w.heap[g]? = some (.cells c te (0, 0))) {v : Value} (hn : v.cells.size = P.cellsOf t)
  (hle : off + v.cells.size ≤ c.size) (h1 : ∀ u ∈ v.cells.toList, u.oneCell' = true) :
  (Instr.storeAt t (.pointer (some ⟨g, off, none⟩)) v).run P w = .ok () (w.setRow g (c.toList.take off ++ v.cells.toList ++ c.toList.drop (off + v.cells.size)).toArray) := by
 have hst := run_storeCells_at (P := P) g off te v.cells.toList 0 c w hb (by simpa using hle) h1
 simp only [Instr.storeAt, Instr.sureAddr, Sem.run_bind, Sem.run_pure, Result.andThen_ok, storeVar, run_sizeOf' hu, ne_eq, hn, not_true_eq_false, if_false]
 simpa [hn] using hst
theorem store_sound {t : TypeId} {x y : Operand} (hop : o.op = .store t x y) (ht : opT P o = some xo) (he : evalOp cf env H xo = some (av, H')) (hE : EnvR C w a env) (hH : RH C w Hp)
  (hT : ∀ id ∈ (touched env H xo).1, Hp id = H[id]?) : MemOk P C w a o Hp H H' (touched env H xo).2 av := by
 simp only [opT, hop, Option.bind_eq_bind] at ht
 split at ht <;> first | (cases ht; done) | skip
 rename_i hu'
 simp only [Option.bind_eq_some_iff, Option.some.injEq] at ht
 obtain ⟨x', hx, y', hy, rfl⟩ := ht
 obtain ⟨d, hu⟩ := Option.isSome_iff_exists.1 hu'
 have Rx := operand_sound hx hE
 have Ry := operand_sound hy hE
 generalize hvx : a.eval x = vx at Rx
 generalize hvy : a.eval y = vy at Ry
 simp only [evalOp] at he
 split at he <;> first | (cases he; done) | skip
 rename_i H2 hst
 simp only [Option.some.injEq, Prod.mk.injEq] at he; obtain ⟨rfl, rfl⟩ := he
 simp only [storeAt] at hst
 split at hst <;> first | (cases hst; done) | skip
 rename_i hcond
 obtain ⟨hn, hone⟩ := hcond
 obtain ⟨hR, h1⟩ := Ry.cells_one hone
 have hsz : vy.cells.size = P.cellsOf t := by have := hR.1; simp only [Array.length_toList] at this; omega
 split at hst <;> first | (cases hst; done) | skip
 ·rename_i id off ex
  rw [ex] at Rx
  split at hst <;> first | (cases hst; done) | skip
  rename_i cs hb
  split at hst <;> first | (cases hst; done) | skip
  rename_i cs' hset
  simp only [Option.some.injEq] at hst; subst hst
  simp only [touched, ex] at hT ⊢
  have hp := hT id (by simp)
  have hB := hH.blk id _ (hp.trans hb)
  simp only [setCells] at hset
  split at hset <;> first | (cases hset; done) | skip
  rename_i hle
  simp only [Option.some.injEq] at hset; subst hset
  cases Rx with
  | ptr _ _ b hD hρ =>
   cases hB with
   | box _ b' c te hρ' hbk hnc hF h hc1 =>
    rw [hρ] at hρ'; injection hρ' with hρ'; subst hρ'
    have hcl : RL C w c.toList cs := ⟨by simpa using hnc, fun j u x hu hx => h j u x (by simpa using hu) hx⟩
    have hrun := run_storeAt (w := w) (off := off) hu hbk hsz (by omega) h1
    have hnew := ((hcl.take off).append hR).append (hcl.drop (off + vy.cells.size))
    have hlenv : (y'.ev env).cells.length = vy.cells.size := by rw [hn, hsz]
    have hFz : ctxFz C H [] = C := by
     unfold ctxFz
     cases C; simp
    refine ⟨undef, _, C, .inr ⟨by simp only [execOp, hop, hvx, hvy, Sem.run_bind, hrun]; rfl, rfl⟩, .top _, ?_⟩
    have hL := Local.turn (w' := w.setRow b (c.toList.take off ++ vy.cells.toList ++ c.toList.drop (off + vy.cells.size)).toArray) (b' := .box (cs.take off ++ (y'.ev env).cells ++ cs.drop (off + (y'.ev env).cells.length)))
     hH (g := b) [] hb hp (by simp) (by rw [hρ]; rfl) (fun i hi => by cases hi) (fun i hi => by cases hi) rfl rfl rfl (by simp) (fun k hk => setRow_other w b k _ hk) ?_ (fun k hk => by rw [hρ] at hk ⊢; exact hk)
    ·rw [hFz, freeze_nil] at hL
     exact hL
    ·rw [hFz]
     have hK : Keeps C C w (w.setRow b (c.toList.take off ++ vy.cells.toList ++ c.toList.drop (off + vy.cells.size)).toArray) :=
      ⟨fun _ h => h, fun k hk => setRow_other w b k _ (fun e => hF (e ▸ hk)), fun _ h => h, fun _ _ => rfl, fun _ _ => rfl⟩
     rw [hlenv]
     refine .box _ b _ te hρ (setRow_heap w b c _ te (0, 0) hbk) (by simpa using hnew.1) hF (fun j v av hv hav => (hnew.2 j v av (by simpa using hv) hav).keeps hK) (fun j v hv => ?_)
     have hv' : v ∈ c.toList.take off ++ vy.cells.toList ++ c.toList.drop (off + vy.cells.size) := by
      have : (c.toList.take off ++ vy.cells.toList ++ c.toList.drop (off + vy.cells.size))[j]? = some v := by simpa using hv
      exact List.mem_of_getElem? this
     have hcm : ∀ u ∈ c.toList, u.oneCell' = true := fun u hu => by
      obtain ⟨j, hj, rfl⟩ := List.mem_iff_getElem.1 hu
      exact hc1 j _ (by simp)
     rcases List.mem_append.1 hv' with hv' | hv'
     ·rcases List.mem_append.1 hv' with hv' | hv'
      ·exact hcm v (List.mem_of_mem_take hv')
      ·exact h1 v hv'
     ·exact hcm v (List.mem_of_mem_drop hv')
 ·rename_i id i off ex
  rw [ex] at Rx
  split at hst <;> first | (cases hst; done) | skip
  rename_i e sz fl xs hb
  split at hst <;> first | (cases hst; done) | skip
  rename_i d0 ds hd hds
  split at hst <;> first | (cases hst; done) | skip
  rename_i hc2
  obtain ⟨hle, hnc⟩ := hc2
  simp only [Option.some.injEq] at hst; subst hst
  simp only [touched, ex] at hT ⊢
  have hp := hT id (by simp)
  have hB := hH.blk id _ (hp.trans hb)
  have hrefs := toDatL_refs (H := H) _ ds hds
  have hTr : ∀ i ∈ AV.refsL (y'.ev env).cells, Hp i = H[i]? := fun i hi => hT i (by simp [hi])
  have hni : id ∉ AV.refsL (y'.ev env).cells := fun h => hnc (List.contains_iff_mem.2 h)
  cases Rx with
  | eptr _ _ _ g cap hD hρ =>
   cases hB with
   | arr0 => simp at hd
   | arr _ _ _ _ _ g' cap' c hρ' hz hz0 hbk hc hl hcap hF hs hfl hcell =>
    rw [hρ] at hρ'; injection hρ' with e1 e2; subst e1; subst e2
    have hgF : ¬ C.Fz g := fun h => by have := hF.1 h; cases this
    have hd0 : d0.cells.length = sz := hs d0 (List.mem_of_getElem? hd)
    have hilt : i < xs.length := (List.getElem?_eq_some_iff.1 hd).1
    obtain ⟨hd1, hd2⟩ := toDatL_sound hH (ctxFz C H (AV.refsL (y'.ev env).cells)).Fz (fun _ h => .inl h) _ ds hds hTr (fun i hi b k hb hk => .inr ⟨i, hi, b, hb, hk⟩) vy.cells.toList hR
    have hleaf : ∀ d ∈ ds, d.leaf = true := fun d hd => by
     obtain ⟨j, hj, rfl⟩ := List.mem_iff_getElem.1 hd
     have hj' : j < vy.cells.toList.length := by omega
     exact leaf_of_one (hd2 j _ _ (List.getElem?_eq_getElem hj') (List.getElem?_eq_getElem hj)) (h1 _ (List.getElem_mem hj'))
    have hdlen : ds.length = vy.cells.size := by rw [← hd1]; simp
    have hxleaf : ∀ d ∈ d0.cells, d.leaf = true := fun d hd' => by
     obtain ⟨j, hj, rfl⟩ := List.mem_iff_getElem.1 hd'
     obtain ⟨v, _, h2, h3⟩ := hcell _ _ (flatten_get hs hd (List.getElem?_eq_getElem hj))
     exact leaf_of_one h2 h3
    have hfl0 : (flatten xs).length = xs.length * sz := flatten_length hs
    have hmul : (i + 1) * sz ≤ xs.length * sz := Nat.mul_le_mul_right _ (by omega)
    rw [Nat.succ_mul] at hmul
    have hmul2 : xs.length * sz ≤ cap * sz := Nat.mul_le_mul_right _ hl
    have hnewc : (d0.cells.take off ++ ds ++ d0.cells.drop (off + ds.length)).length = sz := by simp; omega
    have hecells := elem_cells (z := sz) hnewc (fun d hd => by
     rcases List.mem_append.1 hd with hd | hd
     ·rcases List.mem_append.1 hd with hd | hd
      ·exact hxleaf d (List.mem_of_mem_take hd)
      ·exact hleaf d hd
     ·exact hxleaf d (List.mem_of_mem_drop hd)) hz0
    generalize hel : (if sz = 1 then (d0.cells.take off ++ ds ++ d0.cells.drop (off + ds.length)).headD default else Dat.agg (d0.cells.take off ++ ds ++ d0.cells.drop (off + ds.length))) = el at hecells
    have hfs := flatten_set hs hd hle hecells
    have hrun := run_storeAt (w := w) (off := i * sz + off) hu hbk hsz (by omega) h1
    rw [hz] at hvx
    generalize hrow : (c.toList.take (i * sz + off) ++ vy.cells.toList ++ c.toList.drop (i * sz + off + vy.cells.size)) = row at hrun
    have hrl : row.length = cap * sz := by rw [← hrow, ← hc]; simp; omega
    refine ⟨undef, _, ctxFz C H (AV.refsL (y'.ev env).cells), .inr ⟨by simp only [execOp, hop, hvx, hvy, Sem.run_bind, hrun]; rfl, rfl⟩, .top _, ?_⟩
    have hK : Keeps C (ctxFz C H (AV.refsL (y'.ev env).cells)) w (w.setRow g row.toArray) :=
     ⟨fun _ h => .inl h, fun k hk => setRow_other w g k _ (fun e => hgF (e ▸ hk)), fun _ h => h, fun _ _ => rfl, fun _ _ => rfl⟩
    have hnF : ¬ (ctxFz C H (AV.refsL (y'.ev env).cells)).Fz g := by
     rintro (h | ⟨j, hj, b, hb', hk⟩)
     ·exact hgF h
     ·have := hH.inj j id b _ g ((hTr j hj).trans hb') (hp.trans hb) hk (by rw [hρ]; rfl)
      exact hni (this ▸ hj)
    refine Local.turn hH (g := g) _ hb hp hni (by rw [hρ]; exact ⟨rfl, rfl⟩) hrefs hTr rfl rfl rfl (by simp) (fun k hk => setRow_other w g k _ hk) ?_ (fun k hk => by rw [hρ] at hk ⊢; exact hk)
    refine .arr e sz _ false (xs.set i el) g cap row.toArray hρ hz hz0 (setRow_heap w g c _ e (0, 0) hbk) (by simpa using hrl) (by simpa using hl) hcap ⟨fun h => absurd h hnF, fun h => by cases h⟩ (fun x hx => ?_) (fun hf x hx => ?_) (fun k q hk => ?_)
    ·rcases List.mem_or_eq_of_mem_set hx with hx | rfl
     ·exact hs x hx
     ·rw [hecells, hnewc]
    ·simp only [Bool.and_eq_true] at hf
     rcases List.mem_or_eq_of_mem_set hx with hx | rfl
     ·exact hfl hf.1 x hx
     ·apply flat_of_cells
      rw [hecells]
      have hd0f : ∀ d ∈ d0.cells, d.flat = true := fun d hd' => by
       have := hfl hf.1 d0 (List.mem_of_getElem? hd)
       cases d0 with
       | agg cs => simp only [Dat.flat] at this; exact flats_mem this d hd'
       | _ => simp only [Dat.cells, List.mem_singleton] at hd'; subst hd'; exact this
      intro d hd'
      rcases List.mem_append.1 hd' with hd' | hd'
      ·rcases List.mem_append.1 hd' with hd' | hd'
       ·exact hd0f d (List.mem_of_mem_take hd')
       ·exact flats_mem hf.2 d hd'
      ·exact hd0f d (List.mem_of_mem_drop hd')
    ·rw [hfs] at hk
     have hkeep : ∀ j q, (flatten xs)[j]? = some q → ∃ v : Value, c.toList[j]? = some v ∧ RD (ctxFz C H (AV.refsL (y'.ev env).cells)).Fz (w.setRow g row.toArray) v q ∧ v.oneCell' = true := fun j q hq => by
      obtain ⟨v, h1, h2, h3⟩ := hcell j q hq
      exact ⟨v, by rw [Array.getElem?_toList]; exact h1, h2.keeps hK.fz hK.blk, h3⟩
     suffices h : ∃ v : Value, row[k]? = some v ∧ RD (ctxFz C H (AV.refsL (y'.ev env).cells)).Fz (w.setRow g row.toArray) v q ∧ v.oneCell' = true by
      obtain ⟨v, h1, h2⟩ := h
      exact ⟨v, by simpa using h1, h2⟩
     have hother : ∀ b, b ≠ g → (w.setRow g row.toArray).heap[b]? = w.heap[b]? := fun b hb => setRow_other w g b _ hb
     generalize w.setRow g row.toArray = W at hkeep hother ⊢
     rw [← hrow, ← hdlen]
     have hcl : c.toList.length = cap * sz := by simpa using hc
     by_cases hk1 : k < i * sz + off
     ·rw [List.append_assoc, List.getElem?_append_left (by rw [List.length_take]; omega), List.getElem?_take, if_pos hk1]
      rw [List.append_assoc, List.getElem?_append_left (by rw [List.length_take]; omega), List.getElem?_take, if_pos hk1] at hk
      exact hkeep k q hk
     ·by_cases hk2 : k < i * sz + off + ds.length
      ·rw [List.append_assoc, List.getElem?_append_right (by rw [List.length_take]; omega), List.length_take, List.getElem?_append_left (by simp; omega)]
       rw [List.append_assoc, List.getElem?_append_right (by rw [List.length_take]; omega), List.length_take, List.getElem?_append_left (by omega)] at hk
       rw [show min (i * sz + off) c.toList.length = i * sz + off by omega]
       rw [show min (i * sz + off) (flatten xs).length = i * sz + off by omega] at hk
       have hj' : k - (i * sz + off) < vy.cells.toList.length := by omega
       refine ⟨vy.cells.toList[k - (i * sz + off)], List.getElem?_eq_getElem hj', ?_, h1 _ (List.getElem_mem hj')⟩
       have := hd2 _ _ q (List.getElem?_eq_getElem hj') hk
       refine this.keeps (fun _ h => h) (fun b hb => hother b (fun e => hnF (e ▸ hb)))
      ·rw [List.getElem?_append_right (by simp; omega), List.length_append, List.length_take, List.getElem?_drop]
       rw [List.getElem?_append_right (by simp; omega), List.length_append, List.length_take, List.getElem?_drop] at hk
       have hvl : vy.cells.toList.length = ds.length := by omega
       rw [hvl]
       have e1 : i * sz + off + ds.length + (k - (min (i * sz + off) c.toList.length + ds.length)) = k := by omega
       have e2 : i * sz + off + ds.length + (k - (min (i * sz + off) (flatten xs).length + ds.length)) = k := by omega
       rw [e1]; rw [e2] at hk
       exact hkeep k q hk
end Go.Ax
namespace Go.Ax
set_option linter.unusedSectionVars false
open Go.RowKit
variable [Gls]
variable {P : Program} {C C' : Ctx} {w w' : World} {a : Act} {env : Env} {H H' : List Blk} {cf : CallF} {av : AV} {o : Oper} {xo : XOp} {Hp : Nat → Option Blk} {wr : List Nat}
structure Src (C : Ctx) (w : World) (vx : Value) (sz : Nat) (fl : Bool) (ys : List Dat) : Prop where
 shape : ∃ ax cx, vx = .slice ax ys.length cx ∧ (ys = [] → ax = none → cx = 0) ∧ (ys ≠ [] → ∃ (ad : Addr) (news : List Value), ax = some ad ∧ news.length = ys.length * sz ∧ (∀ (j : Nat) (u : Value), news[j]? = some u → w.cell? (ad.add j) = some u) ∧ (∀ u ∈ news, u.oneCell' = true) ∧
  ∀ (k : Nat) (d : Dat) (u : Value), (flatten ys)[k]? = some d → news[k]? = some u → RD C.Fz w u d)
 cells : ∀ y ∈ ys, y.cells.length = sz
 flat : fl = true → ∀ y ∈ ys, y.flat = true
theorem news_of {n : Nat} (f : Nat → Value) (P : Nat → Value → Prop) (h : ∀ k, k < n → P k (f k)) : ∀ (j : Nat) (u : Value), ((List.range n).map f)[j]? = some u → P j u := by
 intro j u hu
 simp only [List.getElem?_map, Option.map_eq_some_iff] at hu
 obtain ⟨k, hk, rfl⟩ := hu
 have hj : j < n := by have := (List.getElem?_eq_some_iff.1 hk).1; simpa using this
 rw [List.getElem?_range hj] at hk; injection hk with hk; subst hk
 exact h j hj
theorem src_sound (hH : RH C w Hp) {X : AV} {vx : Value} {sz : Nat} {fl : Bool} {ys : List Dat} (hs : slElems H X = some (sz, fl, ys)) (hv : RV C w vx X) (hT : ∀ id ∈ X.refs, Hp id = H[id]?) : Src C w vx sz fl ys := by
 unfold slElems at hs
 split at hs <;> first | (cases hs; done) | skip
 ·rename_i sz' fl' xs
  simp only [Option.some.injEq, Prod.mk.injEq] at hs; obtain ⟨rfl, rfl, rfl⟩ := hs
  cases hv with
  | dat hv => cases hv with
   | sl0 ax cap _ _ hn => exact ⟨⟨ax, cap, rfl, fun _ h => hn h, fun h => (h rfl).elim⟩, fun y hy => (by cases hy), fun _ y hy => (by cases hy)⟩
   | sl ad cap _ _ _ vs hne hF hcap hsz hfl hv hd =>
    have hfl2 := flatten_length hsz
    refine ⟨⟨some ad, cap, rfl, fun h => (hne h).elim, fun _ => ⟨ad, (List.range (xs.length * sz')).map vs, rfl, by simp, ?_, ?_, ?_⟩⟩, hsz, hfl⟩
    ·refine news_of vs (fun j u => w.cell? (ad.add j) = some u) (fun k hk => ?_)
     exact (hv k _ (List.getElem?_eq_getElem (by omega))).1
    ·intro u hu
     obtain ⟨j, hj, rfl⟩ := List.mem_iff_getElem.1 hu
     have := news_of vs (fun j u => u.oneCell' = true) (fun k hk => (hv k _ (List.getElem?_eq_getElem (by omega))).2) j _ (List.getElem?_eq_getElem hj)
     exact this
    ·intro k d u hk hu
     have := news_of (n := xs.length * sz') vs (fun j u => ∀ d, (flatten xs)[j]? = some d → RD C.Fz w u d) (fun k hk d hd' => hd k d hd') k u hu
     exact this d hk
 ·rename_i e sz' fl'
  simp only [Option.some.injEq, Prod.mk.injEq] at hs; obtain ⟨rfl, rfl, rfl⟩ := hs
  cases hv
  exact ⟨⟨_, 0, rfl, fun _ _ => rfl, fun h => (h rfl).elim⟩, fun y hy => (by cases hy), fun _ y hy => (by cases hy)⟩
 ·rename_i id off len
  split at hs <;> first | (cases hs; done) | skip
  rename_i e sz' fl' fz xs hb
  split at hs <;> first | (cases hs; done) | skip
  rename_i hle
  simp only [Option.some.injEq, Prod.mk.injEq] at hs; obtain ⟨rfl, rfl, rfl⟩ := hs
  have hp := (hT id (by simp [AV.refs])).trans hb
  have hB := hH.blk id _ hp
  have hlen : ((xs.drop off).take len).length = len := by rw [List.length_take, List.length_drop]; omega
  cases hv with
  | own0 _ _ hD hρ =>
   simp only [List.take_zero]
   exact ⟨⟨_, 0, rfl, fun _ _ => rfl, fun h => (h rfl).elim⟩, fun y hy => (by cases hy), fun _ y hy => (by cases hy)⟩
  | own _ _ _ g cap hD hρ hle' =>
   cases hB with
   | arr0 =>
    have h0 : off = 0 ∧ len = 0 := by simp at hle; exact hle
    obtain ⟨rfl, rfl⟩ := h0
    simp only [List.take_zero]
    exact ⟨⟨_, _, rfl, fun _ h => (by cases h), fun h => (h rfl).elim⟩, fun y hy => (by cases hy), fun _ y hy => (by cases hy)⟩
   | arr _ _ _ _ _ g' cap' c hρ' hz hz0 hbk hc hlx hcap hFz hsz hfl hcell =>
    rw [hρ] at hρ'; injection hρ' with e1 e2; subst e1; subst e2
    have hsub : ∀ x ∈ (xs.drop off).take len, x ∈ xs := fun x hx => List.mem_of_mem_drop (List.mem_of_mem_take hx)
    have hflat : flatten ((xs.drop off).take len) = ((flatten xs).drop (off * sz')).take (len * sz') := by
     rw [flatten_take (sz := sz') _ (fun x hx => hsz x (List.mem_of_mem_drop hx)), flatten_drop _ hsz]
    have hfl2 := flatten_length hsz
    have hmul : (off + len) * sz' ≤ xs.length * sz' := Nat.mul_le_mul_right _ hle
    rw [Nat.add_mul] at hmul
    have hcells : ∀ k, k < len * sz' → ∃ d u, (flatten xs)[off * sz' + k]? = some d ∧ c[off * sz' + k]? = some u ∧ RD C.Fz w u d ∧ u.oneCell' = true := fun k hk => by
     have hlt : off * sz' + k < (flatten xs).length := by omega
     obtain ⟨u, h1, h2, h3⟩ := hcell _ _ (List.getElem?_eq_getElem hlt)
     exact ⟨_, u, List.getElem?_eq_getElem hlt, h1, h2, h3⟩
    refine ⟨⟨_, _, by rw [hlen], fun _ h => (by cases h), fun _ => ⟨⟨g, off * C.sz id, none⟩, (List.range (len * sz')).map fun k => c.getD (off * sz' + k) undef, rfl, by simp [hlen], ?_, ?_, ?_⟩⟩, fun y hy => hsz y (hsub y hy), fun h y hy => hfl h y (hsub y hy)⟩
    ·refine news_of _ (fun j u => w.cell? ((⟨g, off * C.sz id, none⟩ : Addr).add j) = some u) (fun k hk => ?_)
     obtain ⟨d, u, _, h2, _, _⟩ := hcells k hk
     rw [mk_add, hz, cell_of_row w g _ c _ (0, 0) hbk, arr_getD h2]; exact h2
    ·intro u hu
     obtain ⟨j, hj, rfl⟩ := List.mem_iff_getElem.1 hu
     refine news_of _ (fun j u => u.oneCell' = true) (fun k hk => ?_) j _ (List.getElem?_eq_getElem hj)
     obtain ⟨d, u, _, h2, _, h4⟩ := hcells k hk
     simp only [arr_getD h2]; exact h4
    ·intro k d u hk hu
     have hklt : k < len * sz' := by have := (List.getElem?_eq_some_iff.1 hu).1; simpa using this
     have := news_of _ (fun j u => ∀ d, (flatten xs)[off * sz' + j]? = some d → RD C.Fz w u d) (fun k hk d' hd' => ?_) k u hu
     ·refine this d ?_
      rw [hflat, List.getElem?_take, if_pos hklt, List.getElem?_drop] at hk
      exact hk
     ·obtain ⟨d2, u2, h1, h2, h3, _⟩ := hcells k hk
      rw [h1] at hd'; injection hd' with hd'; subst hd'
      simp only [arr_getD h2]; exact h3
def locOf : Value → Loc
 | .slice (some ad) _ cap => .arr ad.block cap
 | _ => .none
theorem owns_RB {id e sz N : Nat} {fl : Bool} {zs : List Dat} {v : Value} {ws : List Value} (hO : w.ownsRow 0 e sz v N ws) (hN : zs.length = N) (hz0 : 0 < sz) (hρ : C.ρ id = locOf v) (hsz : C.sz id = sz) (hD : C.D id)
  (hs : ∀ x ∈ zs, x.cells.length = sz) (hfl : fl = true → ∀ x ∈ zs, x.flat = true) (hw : ∀ (k : Nat) (d : Dat) (u : Value), (flatten zs)[k]? = some d → ws[k]? = some u → RD C.Fz w u d ∧ u.oneCell' = true)
  (hF : ∀ g, v.ownBlock = some g → ¬ C.Fz g) : RB C w id (.arr e sz fl false zs) ∧ RV C w v (.own id 0 N) := by
 obtain ⟨hl, h⟩ := hO
 rcases h with ⟨rfl, h0⟩ | ⟨g, cap, cur, rfl, _, hg, hn, hcap, hc, htake⟩
 ·have : zs = [] := List.eq_nil_of_length_eq_zero (by omega)
  subst this; subst h0
  exact ⟨.arr0 e sz fl false hρ hsz hz0, .own0 _ id hD hρ⟩
 ·have hfz : (flatten zs).length = N * sz := by rw [flatten_length hs, hN]
  refine ⟨.arr e sz fl false zs g cap cur hρ hsz hz0 hg hc (by omega) hcap ⟨fun h => (hF g rfl h).elim, fun h => by cases h⟩ hs hfl (fun k d hk => ?_), ?_⟩
  ·have hkl : k < N * sz := by rw [← hfz]; exact (List.getElem?_eq_some_iff.1 hk).1
   have hwl : k < ws.length := by omega
   obtain ⟨u0, hu⟩ : ∃ u0, ws[k]? = some u0 := ⟨_, List.getElem?_eq_getElem hwl⟩
   refine ⟨u0, ?_, hw k d _ hk hu⟩
   rw [← htake, List.getElem?_take, if_pos hkl] at hu
   simpa using hu
  ·have := RV.own (C := C) (w := w) id 0 N g cap hD hρ (by omega)
   simpa using this
open Classical in
noncomputable def ctxApp (C : Ctx) (n : Nat) (l : Loc) (sz : Nat) : Ctx := { C with ρ := fun i => if i = n then l else C.ρ i, sz := fun i => if i = n then sz else C.sz i, D := fun i => C.D i ∨ i = n }
theorem ctxApp_keeps {n : Nat} {l : Loc} {sz : Nat} (hN : ¬ C.D n) (hs : ∀ k, C.Fz k → w'.heap[k]? = w.heap[k]?) : Keeps C (ctxApp C n l sz) w w' :=
 ⟨fun _ h => h, hs, fun _ h => .inl h, fun i hi => if_neg (fun e => hN (by rw [← e]; exact hi)), fun i hi => if_neg (fun e => hN (by rw [← e]; exact hi))⟩
theorem Local.app0 (hH : RH C w Hp) {b : Blk} {l : Loc} {sz : Nat} (hN : ¬ C.D H.length) (hg : w.grownBy w' none) (hblk : RB (ctxApp C H.length l sz) w' H.length b) (hl : ∀ k, Lies b l k → w.heap.size ≤ k) :
  Local C (ctxApp C H.length l sz) w w' H (H ++ [b]) Hp [] := by
 have hs : ∀ k, k < w.heap.size → w'.heap[k]? = w.heap[k]? := fun k hk => hg.block k hk (by simp)
 have hK : Keeps C (ctxApp C H.length l sz) w w' := ctxApp_keeps hN (fun k hk => hs k (hH.lt k hk))
 have := Local.ext (C' := ctxApp C H.length l sz) (w' := w') (H := H) hH [] [b] (fun _ => False) (fun i hi => by cases hi) (fun i hi => by cases hi) hK.rho hK.siz (fun i => ?_) (fun k => ?_) hg.os hg.tape hg.output hg.size hs (fun _ h => h.elim)
  (fun j b' hb => ?_) (fun j b' k hb hk => ?_) (fun i j b1 b2 k hi hj _ _ => ?_)
 ·rwa [freeze_nil] at this
 ·simp only [ctxApp, List.length_cons, List.length_nil]
  constructor
  ·rintro (h | h)
   ·exact .inl h
   ·exact .inr ⟨by omega, by omega⟩
  ·rintro (h | h)
   ·exact .inl h
   ·exact .inr (by omega)
 ·simp only [ctxApp]
  constructor
  ·exact fun h => .inl h
  ·rintro (h | ⟨i, hi, _⟩ | h)
   ·exact h
   ·cases hi
   ·exact h.2.elim
 ·cases j with
  | zero => simp only [List.getElem?_cons_zero, Option.some.injEq] at hb; subst hb; exact hblk
  | succ j => simp at hb
 ·cases j with
  | zero =>
   simp only [List.getElem?_cons_zero, Option.some.injEq] at hb; subst hb
   refine hl k ?_
   simpa [ctxApp] using hk
  | succ j => simp at hb
 ·cases i with
  | zero => cases j with
   | zero => rfl
   | succ j => simp at hj
  | succ i => simp at hi
theorem Local.app1 (hH : RH C w Hp) {id : Nat} {b0 b : Blk} {l : Loc} {sz : Nat} {row : Option Nat} (hid : H[id]? = some b0) (hpid : Hp id = H[id]?) (hN : ¬ C.D H.length) (hg : w.grownBy w' row)
  (hrow : ∀ k, row = some k → Writes b0 (C.ρ id) k) (hblk : RB (ctxApp C H.length l sz) w' H.length b) (hl : ∀ k, Lies b l k → w.heap.size ≤ k ∨ Lies b0 (C.ρ id) k) :
  Local C (ctxApp C H.length l sz) w w' H (H.set id .dead ++ [b]) Hp [id] := by
 have hidlt : id < H.length := (List.getElem?_eq_some_iff.1 hid).1
 have hB0 := hH.blk id b0 (hpid.trans hid)
 have hwF : ∀ k, Writes b0 (C.ρ id) k → ¬ C.Fz k := fun k hw hF => by
  cases hB0 with
  | box cs b c t hρ hb hn hF' h h1 => rw [hρ] at hw; simp only [Writes] at hw; subst hw; exact hF' hF
  | arr0 e sz fl fz hρ => rw [hρ] at hw; exact hw
  | arr e sz fl fz xs g' cap c hρ hz hz0 hbk hc hl hcap hF' => rw [hρ] at hw; simp only [Writes] at hw; obtain ⟨h1, rfl⟩ := hw; rw [hF'.1 hF] at h1; cases h1
  | mp l b es ck hρ hb hF' => rw [hρ] at hw; simp only [Writes] at hw; subst hw; exact hF' hF
  | dead => exact hw
 have hK : Keeps C (ctxApp C H.length l sz) w w' := ctxApp_keeps hN (fun k hk => hg.block k (hH.lt k hk) (fun e => hwF k (hrow k e.symm) hk))
 have hlen : (H.set id .dead ++ [b]).length = H.length + 1 := by simp
 have getid : (H.set id .dead ++ [b])[id]? = some .dead := by
  rw [List.getElem?_append_left (by simpa using hidlt), List.getElem?_set_self hidlt]
 have getnew : (H.set id .dead ++ [b])[H.length]? = some b := by
  rw [List.getElem?_append_right (by simp)]; simp
 have tch : ∀ i, Tch H (H.set id .dead ++ [b]) [id] i → i = id ∨ i = H.length := fun i hi => by
  rcases hi with hi | hi
  ·exact .inl (by simpa using hi)
  ·rw [hlen] at hi; exact .inr (by omega)
 refine ⟨hK, hg.os, hg.tape, hg.output, hg.size, by omega, fun i hi hn => ?_, fun k hk => ?_, fun k f => .inl f, fun k f => ?_, fun i hi => ?_, fun i => ?_, fun i b' ht hb => ?_, fun i b' k ht hb hk => ?_, fun i j b1 b2 k hi hj hb1 hb2 hl1 hl2 => ?_⟩
 ·have : i ≠ id := fun e => hn (by simp [e])
  rw [List.getElem?_append_left (by simpa using hi), List.getElem?_set_ne (Ne.symm this)]
 ·by_cases e : some k = row
  ·exact .inr ⟨id, by simp, b0, hpid.trans hid, hrow k e.symm⟩
  ·exact .inl (hg.block k hk e)
 ·have := hH.lt k f; have := hg.size; omega
 ·have : i = id := by simpa using hi
  subst this; exact hH.dom _ _ (hpid.trans hid)
 ·rw [hlen]
  simp only [ctxApp]
  constructor
  ·rintro (h | h)
   ·exact .inl h
   ·exact .inr (by omega)
  ·rintro (h | h)
   ·exact .inl h
   ·exact .inr (by omega)
 ·rcases tch i ht with rfl | rfl
  ·rw [getid] at hb; injection hb with hb; subst hb; exact .dead
  ·rw [getnew] at hb; injection hb with hb; subst hb; exact hblk
 ·rcases tch i ht with rfl | rfl
  ·rw [getid] at hb; injection hb with hb; subst hb
   exact hk.elim
  ·rw [getnew] at hb; injection hb with hb; subst hb
   have hk' : Lies b l k := by simpa [ctxApp] using hk
   rcases hl k hk' with h | h
   ·exact .inl h
   ·exact .inr ⟨id, by simp, b0, hpid.trans hid, h⟩
 ·rcases tch i hi with rfl | rfl
  ·rw [getid] at hb1; injection hb1 with hb1; subst hb1; exact hl1.elim
  ·rcases tch j hj with rfl | rfl
   ·rw [getid] at hb2; injection hb2 with hb2; subst hb2; exact hl2.elim
   ·rfl
theorem LIM_eq : LIM = 4294967296 := rfl
theorem app_sound {c : Call} (hop : o.op = .call c) (hc : c.callee = .builtin .append) (ht : opT P o = some xo) (he : evalOp cf env H xo = some (av, H')) (hE : EnvR C w a env) (hH : RH C w Hp) (hN : ¬ C.D H.length)
  (hT : ∀ id ∈ (touched env H xo).1, Hp id = H[id]?) : MemOk P C w a o Hp H H' (touched env H xo).2 av := by
 obtain ⟨callee, args, argTypes⟩ := c
 simp only at hc; subst hc
 simp only [opT, hop] at ht
 split at ht <;> first | (cases ht; done) | skip
 rename_i t htt
 split at ht <;> first | (cases ht; done) | skip
 rename_i el hu
 split at ht <;> first | (cases ht; done) | skip
 rename_i x y z hargs hz
 split at ht <;> first | (cases ht; done) | skip
 rename_i hcond
 obtain ⟨htypes, hz0, hbytes, hzl⟩ := hcond
 simp only [Option.bind_eq_bind, Option.bind_eq_some_iff, Option.some.injEq] at ht
 obtain ⟨x', hx, y', hy, rfl⟩ := ht
 have hargs' : args = #[x, y] := by rw [← Array.toArray_toList (xs := args), hargs]
 have htypes' : argTypes = #[t, t] := by rw [← Array.toArray_toList (xs := argTypes), htypes]
 subst hargs'; subst htypes'
 have Rx := operand_sound hx hE
 have Ry := operand_sound hy hE
 generalize hvx : a.eval x = vx at Rx
 generalize hvy : a.eval y = vy at Ry
 obtain ⟨i, zv, hi, hzv, hRz, h1z⟩ := zeroC_sound (C := C) (w := w) hz
 have hisz : i.size = P.cellsOf el := by simp [Program.cellsOf, hi]
 have hiby : i.bytes = P.bytesOf el := by simp [Program.bytesOf, hi]
 have hzs : zv.cells.size = P.cellsOf el := by
  have := hRz.1; simp only [Array.length_toList] at this; omega
 simp only [touched] at hT ⊢
 simp only [evalOp, appendTo] at he
 generalize hX : x'.ev env = X at *
 generalize hY : y'.ev env = Y at *
 split at he <;> first | (cases he; done) | skip
 rename_i sz' fl' ys hsl
 split at he <;> first | (cases he; done) | skip
 rename_i hsz'
 subst hsz'
 have hS := src_sound hH hsl Ry (fun id hid => hT id (by simp [hid]))
 obtain ⟨⟨ax, cx, hvy', hnone, hsome⟩, hycells, hyflat⟩ := hS
 have hrunOf : ∀ v' w', (Builtin.append_ #[t, t] o.type #[vx, vy]).run P w = .ok v' w' → Runs P o a w v' w' := fun v' w' h => .inl (by
  simp only [execOp, hop, resolve, invoke, builtin, Sem.run_bind, Sem.run_pure, Result.andThen_ok, List.map_toArray, List.map_cons, List.map_nil, hvx, hvy, h])
 have law : ∀ (n : Nat) (ws : List Value), w.ownsRow 0 el (P.cellsOf el) vx n ws → n + ys.length ≤ LIM → ∃ v' w' news, (Builtin.append_ #[t, t] o.type #[vx, vy]).run P w = .ok v' w' ∧ w'.ownsRow 0 el (P.cellsOf el) v' (n + ys.length) (ws ++ news) ∧
   w.grownBy w' vx.ownBlock ∧ (v'.ownBlock = vx.ownBlock ∨ v'.ownBlock = some w.heap.size) ∧ news.length = ys.length * P.cellsOf el ∧ ∀ (k : Nat) (d : Dat) (u : Value), (flatten ys)[k]? = some d → news[k]? = some u → RD C.Fz w u d ∧ u.oneCell' = true := by
  intro n ws hO hlim
  rw [LIM_eq] at hlim
  have hb' : (n + ys.length) * P.bytesOf el ≤ 140737488355328 := by
   have : (n + ys.length) * P.bytesOf el ≤ 4294967296 * 8192 := Nat.mul_le_mul hlim hbytes
   omega
  by_cases hys : ys = []
  ·subst hys
   cases ax with
   | none =>
    have hcx := hnone rfl rfl
    subst hcx
    have hr := run_append_owned_none (P := P) w 0 t o.type el i (P.cellsOf el) hu hi vx n ws hO
    refine ⟨vx, w, [], by rw [hvy']; exact hr, by simpa using hO, ⟨rfl, rfl, rfl, Nat.le_refl _, fun _ _ _ => rfl⟩, .inl rfl, by simp, fun k d u h => (by simp [flatten] at h)⟩
   | some ad =>
    obtain ⟨v', w', hr, h2, h3, _, h5⟩ := run_append_own_at (P := P) w 0 t o.type el i zv (P.cellsOf el) (P.bytesOf el) hu hi hzv hisz hiby hzs hz0 vx n ws hO ad 0 cx [] (by simp) (fun j u h => by simp at h) (fun u h => by cases h)
     (by rw [maxLen_eq]; simp at hlim; omega) (by simpa using hb') (Nat.zero_le _)
    exact ⟨v', w', [], by rw [hvy']; exact hr, by simpa using h2, h3, h5, by simp, fun k d u h => (by simp [flatten] at h)⟩
  ·obtain ⟨ad, news, rfl, hnl, hnc, hn1, hnr⟩ := hsome hys
   obtain ⟨v', w', hr, h2, h3, _, h5⟩ := run_append_own_at (P := P) w 0 t o.type el i zv (P.cellsOf el) (P.bytesOf el) hu hi hzv hisz hiby hzs hz0 vx n ws hO ad ys.length cx news hnl hnc hn1
    (by rw [maxLen_eq]; omega) hb' (Nat.zero_le _)
   exact ⟨v', w', news, by rw [hvy']; exact hr, h2, h3, h5, hnl, fun k d u hk hu => ⟨hnr k d u hk hu, hn1 u (List.mem_of_getElem? hu)⟩⟩
 have law0 : ∀ (ad0 : Addr), vx = .slice (some ad0) 0 0 → ys.length ≤ LIM → (ys = [] ∧ (Builtin.append_ #[t, t] o.type #[vx, vy]).run P w = .ok vx w) ∨ ∃ v' w' news, (Builtin.append_ #[t, t] o.type #[vx, vy]).run P w = .ok v' w' ∧ w'.ownsRow 0 el (P.cellsOf el) v' (0 + ys.length) news ∧
   w.grownBy w' none ∧ (∀ g, v'.ownBlock = some g → g = w.heap.size) ∧ ∀ (k : Nat) (d : Dat) (u : Value), (flatten ys)[k]? = some d → news[k]? = some u → RD C.Fz w u d ∧ u.oneCell' = true := by
  intro ad0 hvx0 hlim
  rw [LIM_eq] at hlim
  by_cases hys : ys = []
  ·subst hys
   refine .inl ⟨rfl, ?_⟩
   have hf : ∀ c, (Builtin.firstCells i.size 0 (.slice ax 0 c)).run P w = .ok #[] w := fun c => by cases ax <;> simp [Builtin.firstCells, loadCells, loadCellsFrom]
   rw [hvx0, hvy']
   simp [Builtin.append_, run_underlying hu, sizeOf, typeInfo, hi, Builtin.lenOf, hf, storeCells]
  ·have hb' : (0 + ys.length) * P.bytesOf el ≤ 140737488355328 := by
    have : (0 + ys.length) * P.bytesOf el ≤ 4294967296 * 8192 := Nat.mul_le_mul (by omega) hbytes
    omega
   have hpos : 0 < ys.length := List.length_pos_iff.2 hys
   obtain ⟨ad, news, hax, hnl, hnc, hn1, hnr⟩ := hsome hys
   have hr := run_append_grow (P := P) w t o.type el i zv hu hi hzv ad0 0 0 [] (by simp) (by intro _ _ h'; simp at h') ad ys.length cx news (by rw [hisz]; exact hnl) hnc (by omega) (by omega)
    (growslice_fits (by omega) (by rw [hiby]; exact hb'))
   have hge := grownCap_ge w (0 + ys.length) 0 el
   have hcm : grownCap w (0 + ys.length) 0 el ≤ maxLen := grownCap_le_maxLen w (0 + ys.length) 0 el (by rw [maxLen_eq]; omega)
   refine .inr ⟨_, _, news, by rw [hvx0, hvy', hax]; exact hr, ⟨by rw [hnl, Nat.zero_add], .inr ⟨w.heap.size, _, _, rfl, Nat.zero_le _, heap_alloc_new w.drew _, hge, hcm, ?_, ?_⟩⟩, ⟨rfl, rfl, rfl, by simp, fun k hk _ => heap_alloc_old w.drew _ k hk⟩,
    fun g hg => by simp only [Value.ownBlock, Option.some.injEq] at hg; exact hg.symm, fun k d u hk hu => ⟨hnr k d u hk hu, hn1 u (List.mem_of_getElem? hu)⟩⟩
   ·simp only [Array.size_append, List.size_toArray, List.length_nil, size_zeroCells, hzs, hnl]
    rw [Nat.zero_add, ← Nat.add_mul]
    congr 1
    omega
   ·simp only [Array.toList_append, List.nil_append]
    rw [Nat.zero_add, ← hnl]
    exact List.take_left
 split at he <;> first | (cases he; done) | skip
 ·rename_i e0 s0 f0
  split at he <;> first | (cases he; done) | skip
  rename_i hlim
  simp only [Option.some.injEq, Prod.mk.injEq] at he; obtain ⟨rfl, rfl⟩ := he
  cases Rx
  rename_i base
  have done : (∃ ad0, base = some ad0 ∧ ys = [] ∧ (Builtin.append_ #[t, t] o.type #[Value.slice base 0 0, vy]).run P w = .ok (Value.slice base 0 0) w) ∨ ∃ v' w' news, (Builtin.append_ #[t, t] o.type #[Value.slice base 0 0, vy]).run P w = .ok v' w' ∧ w'.ownsRow 0 el (P.cellsOf el) v' (0 + ys.length) news ∧
    w.grownBy w' none ∧ (∀ g, v'.ownBlock = some g → g = w.heap.size) ∧ ∀ (k : Nat) (d : Dat) (u : Value), (flatten ys)[k]? = some d → news[k]? = some u → RD C.Fz w u d ∧ u.oneCell' = true := by
   cases base with
   | none =>
    obtain ⟨v', w', news, hr, hO, hg, hob, hnl, hnr⟩ := law 0 [] (World.ownsRow_nil w 0 el _) (by omega)
    refine .inr ⟨v', w', news, hr, by simpa using hO, hg, fun g hg => ?_, hnr⟩
    rcases hob with h | h
    ·rw [hg] at h; cases h
    ·rw [hg] at h; injection h
   | some ad0 =>
    rcases law0 ad0 rfl (by omega) with ⟨h1, h2⟩ | h
    ·exact .inl ⟨ad0, rfl, h1, h2⟩
    ·exact .inr h
  rcases done with ⟨ad0, rfl, rfl, hr⟩ | ⟨v', w', news, hr, hO, hgn, hobk, hnr⟩
  ·have hB : RB (ctxApp C H.length .none (P.cellsOf el)) w H.length (.arr el (P.cellsOf el) fl' false []) := .arr0 el (P.cellsOf el) fl' false (by simp [ctxApp]) (by simp [ctxApp]) hz0
   exact ⟨_, w, ctxApp C H.length .none (P.cellsOf el), hrunOf _ _ hr, .own0 _ _ (.inr rfl) (by simp [ctxApp]), Local.app0 hH hN ⟨rfl, rfl, rfl, Nat.le_refl _, fun _ _ _ => rfl⟩ hB (fun k hk => hk.elim)⟩
  have hs : ∀ k, k < w.heap.size → w'.heap[k]? = w.heap[k]? := fun k hk => hgn.block k hk (by simp)
  have hK : Keeps C (ctxApp C H.length (locOf v') (P.cellsOf el)) w w' := ctxApp_keeps hN (fun k hk => hs k (hH.lt k hk))
  simp only [Nat.zero_add] at hO
  obtain ⟨hB, hV⟩ := owns_RB (C := ctxApp C H.length (locOf v') (P.cellsOf el)) (id := H.length) (fl := fl') hO rfl hz0 (by simp [ctxApp]) (by simp [ctxApp]) (.inr rfl) hycells hyflat
   (fun k d u hk hu => let ⟨h1, h2⟩ := hnr k d u hk hu; ⟨h1.keeps hK.fz hK.blk, h2⟩) (fun g hg hf => by
    have h1 : C.Fz g := hf
    have := hH.lt g h1; have := hobk g hg; omega)
  refine ⟨v', w', _, hrunOf v' w' hr, hV, Local.app0 hH hN hgn hB (fun k hk => ?_)⟩
  rcases hO.2 with ⟨rfl, _⟩ | ⟨g, cap, cur, rfl, _⟩
  ·exact hk.elim
  ·have : k = g := hk
   have := hobk g rfl
   omega
 ·rename_i id len
  split at he <;> first | (cases he; done) | skip
  rename_i e0 sz0 fl0 xs hb
  split at he <;> first | (cases he; done) | skip
  rename_i hc2
  obtain ⟨rfl, rfl, hlen, hlim, hnc⟩ := hc2
  simp only [Option.some.injEq, Prod.mk.injEq] at he; obtain ⟨rfl, rfl⟩ := he
  have hp := hT id (by simp [AV.refs])
  have hBid := hH.blk id _ (hp.trans hb)
  by_cases hx0 : ∃ ad0, vx = .slice (some ad0) 0 0 ∧ xs = [] ∧ C.ρ id = .none
  ·obtain ⟨ad0, rfl, rfl, hρ0⟩ := hx0
   simp only [List.length_nil] at hlen hlim ⊢
   subst hlen
   rcases law0 ad0 rfl (by omega) with ⟨rfl, hr⟩ | ⟨v', w', news, hr, hO, hgn, hobk, hnr⟩
   ·have hB : RB (ctxApp C H.length .none (P.cellsOf e0)) w H.length (.arr e0 (P.cellsOf e0) (fl0 && fl') false []) := .arr0 e0 (P.cellsOf e0) _ false (by simp [ctxApp]) (by simp [ctxApp]) hz0
    exact ⟨_, w, ctxApp C H.length .none (P.cellsOf e0), hrunOf _ _ hr, .own0 _ _ (.inr rfl) (by simp [ctxApp]), Local.app1 (row := none) hH hb hp hN ⟨rfl, rfl, rfl, Nat.le_refl _, fun _ _ _ => rfl⟩ (fun k h => by cases h) hB (fun k hk => hk.elim)⟩
   ·have hs : ∀ k, k < w.heap.size → w'.heap[k]? = w.heap[k]? := fun k hk => hgn.block k hk (by simp)
    have hK : Keeps C (ctxApp C H.length (locOf v') (P.cellsOf e0)) w w' := ctxApp_keeps hN (fun k hk => hs k (hH.lt k hk))
    simp only [Nat.zero_add] at hO
    obtain ⟨hB, hV⟩ := owns_RB (C := ctxApp C H.length (locOf v') (P.cellsOf e0)) (id := H.length) (fl := fl0 && fl') hO rfl hz0 (by simp [ctxApp]) (by simp [ctxApp]) (.inr rfl) hycells (fun hf => hyflat (by simp only [Bool.and_eq_true] at hf; exact hf.2))
     (fun k d u hk hu => let ⟨h1, h2⟩ := hnr k d u hk hu; ⟨h1.keeps hK.fz hK.blk, h2⟩) (fun g hg hf => by
      have h1 : C.Fz g := hf
      have := hH.lt g h1; have := hobk g hg; omega)
    refine ⟨v', w', _, hrunOf v' w' hr, by simpa using hV, Local.app1 (row := none) hH hb hp hN hgn (fun k h => by cases h) (by simpa using hB) (fun k hk => ?_)⟩
    rcases hO.2 with ⟨rfl, _⟩ | ⟨g, cap, cur, rfl, _⟩
    ·exact hk.elim
    ·have : k = g := hk
     have := hobk g rfl
     left; omega
  have hown : ∃ ws, w.ownsRow 0 e0 (P.cellsOf e0) vx xs.length ws ∧ (∀ k, vx.ownBlock = some k → Writes (.arr e0 (P.cellsOf e0) fl0 false xs) (C.ρ id) k) ∧ (∀ k, Lies (.arr e0 (P.cellsOf e0) fl0 false xs) (locOf vx) k → Lies (.arr e0 (P.cellsOf e0) fl0 false xs) (C.ρ id) k) ∧
    ∀ (k : Nat) (d : Dat) (u : Value), (flatten xs)[k]? = some d → ws[k]? = some u → RD C.Fz w u d ∧ u.oneCell' = true := by
   cases hBid with
   | arr0 _ _ _ _ hρ hz hz0 =>
    cases Rx with
    | own0 base => cases base with
     | none => exact ⟨[], World.ownsRow_nil w 0 _ _, fun k h => (by cases h), fun k h => h.elim, fun k d u h => (by simp [flatten] at h)⟩
     | some ad0 => exact absurd ⟨ad0, rfl, rfl, hρ⟩ hx0
    | own _ _ _ g cap hD hρ' => rw [hρ] at hρ'; cases hρ'
   | arr _ _ _ _ _ g cap cc hρ hz hz0 hbk hc hl hcap hF hs hfl hcell =>
    cases Rx with
    | own0 _ _ hD hρ' => rw [hρ] at hρ'; cases hρ'
    | own _ _ _ g' cap' hD hρ' hle =>
     rw [hρ] at hρ'; injection hρ' with e1 e2; subst e1; subst e2
     have hfl2 := flatten_length hs
     have hmul : xs.length * P.cellsOf e0 ≤ cap * P.cellsOf e0 := Nat.mul_le_mul_right _ hl
     have hcl : cc.toList.length = cc.size := by simp
     refine ⟨cc.toList.take (xs.length * P.cellsOf e0), ⟨by rw [List.length_take]; omega, .inr ⟨g, cap, cc, by rw [hlen]; simp, Nat.zero_le _, hbk, hl, hcap, hc, rfl⟩⟩, fun k h => ?_, fun k h => ?_, fun k d u hk hu => ?_⟩
     ·simp only [Value.ownBlock, Option.some.injEq] at h; subst h; rw [hρ]; exact ⟨rfl, rfl⟩
     ·rw [hρ]; exact h
     ·obtain ⟨v, h1, h2, h3⟩ := hcell k d hk
      rw [List.getElem?_take] at hu
      split at hu <;> first | (cases hu; done) | skip
      have : cc[k]? = some u := by simpa using hu
      rw [h1] at this; injection this with this; subst this
      exact ⟨h2, h3⟩
  obtain ⟨ws, hO0, hrow, hlies, hwr⟩ := hown
  obtain ⟨v', w', news, hr, hO, hg, hob, hnl, hnr⟩ := law xs.length ws hO0 (by omega)
  have hxs : ∀ x ∈ xs, x.cells.length = P.cellsOf e0 := by
   cases hBid with
   | arr0 => exact fun x hx => (by cases hx)
   | arr => assumption
  have hxfl : fl0 = true → ∀ x ∈ xs, x.flat = true := by
   cases hBid with
   | arr0 => exact fun _ x hx => (by cases hx)
   | arr => assumption
  have hwF : ∀ k, vx.ownBlock = some k → ¬ C.Fz k := fun k hk hF => by
   have hw := hrow k hk
   cases hBid with
   | arr0 e sz fl fz hρ => rw [hρ] at hw; exact hw
   | arr e sz fl fz xs g' cap c hρ hz hz0 hbk hc hl hcap hF' => rw [hρ] at hw; simp only [Writes] at hw; obtain ⟨h1, rfl⟩ := hw; exact absurd (hF'.1 hF) (by simp)
  have hK : Keeps C (ctxApp C H.length (locOf v') (P.cellsOf e0)) w w' := ctxApp_keeps hN (fun k hk => hg.block k (hH.lt k hk) (fun e => hwF k e.symm hk))
  have hobF : ∀ g, v'.ownBlock = some g → ¬ C.Fz g := fun g hgb hF => by
   rcases hob with h | h
   ·exact hwF g (by rw [← h, hgb]) hF
   ·rw [hgb] at h; injection h with h; have := hH.lt g hF; omega
  obtain ⟨hB, hV⟩ := owns_RB (C := ctxApp C H.length (locOf v') (P.cellsOf e0)) (id := H.length) (fl := fl0 && fl') (zs := xs ++ ys) hO (by simp) hz0 (by simp [ctxApp]) (by simp [ctxApp]) (.inr rfl)
   (fun x hx => by
    rcases List.mem_append.1 hx with hx | hx
    ·exact hxs x hx
    ·exact hycells x hx) (fun hf x hx => by
    simp only [Bool.and_eq_true] at hf
    rcases List.mem_append.1 hx with hx | hx
    ·exact hxfl hf.1 x hx
    ·exact hyflat hf.2 x hx)
   (fun k d u hk hu => by
    rw [flatten_append] at hk
    have hwl := hO0.1
    have hfx := flatten_length hxs
    by_cases hkl : k < xs.length * P.cellsOf e0
    ·rw [List.getElem?_append_left (by omega)] at hk hu
     obtain ⟨h1, h2⟩ := hwr k d u hk hu
     exact ⟨h1.keeps hK.fz hK.blk, h2⟩
    ·rw [List.getElem?_append_right (by omega)] at hk hu
     rw [hfx] at hk; rw [hwl] at hu
     obtain ⟨h1, h2⟩ := hnr _ d u hk hu
     exact ⟨h1.keeps hK.fz hK.blk, h2⟩) (fun g hgb hf => hobF g hgb hf)
  refine ⟨v', w', _, hrunOf v' w' hr, hV, Local.app1 hH hb hp hN hg hrow hB (fun k hk => ?_)⟩
  rcases hO.2 with ⟨rfl, _⟩ | ⟨g, cap, cur, rfl, _⟩
  ·exact hk.elim
  ·have hkg : k = g := hk
   subst hkg
   rcases hob with h | h
   ·right
    apply hlies
    cases vx with
    | slice ad _ _ => cases ad with
     | none => cases h
     | some ad => simp only [Value.ownBlock, Option.some.injEq] at h; exact h
    | _ => cases h
   ·left
    simp only [Value.ownBlock, Option.some.injEq] at h
    omega
end Go.Ax
