/-
  Ax: a call that only looks: pointers are handed on as pointers to frozen data. 
-/
import Derived.Test.YtfoglingdnhjpaaGreatDoorXCall
namespace Go.Ax
set_option linter.all false
set_option linter.unusedSectionVars false
open Go.RowKit
variable [Gls]
variable {P : Program} {C C' : Ctx} {w w' : World} {H : List Blk} {cf : CallF} {Hp : Nat → Option Blk}
theorem peek_sound {S : List Nat} (hH : RH C w Hp) (hF : ∀ b, C.Fz b → C'.Fz b) (hl : ∀ i ∈ S, ∀ b k, H[i]? = some b → Lies b (C.ρ i) k → C'.Fz k) {x x' : AV} (h : x.peek H = some x') (hall : ∀ i ∈ S, Hp i = H[i]?)
  (hin : ∀ i ∈ x.refs, i ∈ S) (hcl : ∀ i ∈ x.refs, ∀ cs, H[i]? = some (Blk.box cs) → ∀ j ∈ AV.refsL cs, j ∈ S) {v : Value} (hv : RV C w v x) : RV C' w v x' := by
 have plain : ∀ y', x.hasPtr = false → x.strip H = some y' → RV C' w v y' := fun y' hnp hs =>
  strip_sound hH hF x y' hs (fun i hi => hall i (hin i hi)) (fun i hi => hl i (hin i (owns_refs x i hi))) (fun i hi => by rw [ptrs_nil x hnp] at hi; cases hi) v hv
 cases x with
 | ptr id off =>
  simp only [AV.peek] at h
  split at h <;> first | (cases h; done) | skip
  rename_i cs hb
  split at h <;> first | (cases h; done) | skip
  rename_i hp
  split at h <;> first | (cases h; done) | skip
  rename_i cs' hcs
  split at h <;> first | (cases h; done) | skip
  rename_i ds hds
  injection h with h; subst h
  have hid := hin id (by simp [AV.refs])
  have hB := hH.blk id _ ((hall id hid).trans hb)
  cases hv with
  | ptr _ _ b hDi hρ =>
   cases hB with
   | box _ b2 c t hρ2 hbk hn hF' hc h1 =>
    rw [hρ] at hρ2; injection hρ2 with e; subst e
    have hds' := allDat_eq hds
    have hS := stripL_sound (C' := C') hH hF cs cs' hcs (fun i hi => hall i (hcl id (by simp [AV.refs]) cs hb i hi)) (fun i hi => hl i (hcl id (by simp [AV.refs]) cs hb i (ownsL_refs cs i hi))) (fun i hi => by rw [ptrsL_nil cs (by simpa using hp)] at hi; cases hi) c.toList
     ⟨by simpa using hn, fun j u x hu hx => hc j u x (by simpa using hu) hx⟩
    have hlen : cs'.length = c.size := by simpa using hS.1.symm
    have hcell : ∀ k d, ds[k]? = some d → cs'[off + k]? = some (.dat d) := fun k d hk => by
     have : (cs'.drop off)[k]? = some (.dat d) := by rw [hds']; simp [hk]
     simpa using this
    have hget : ∀ k d, ds[k]? = some d → ∃ u, c[off + k]? = some u := fun k d hk => by
     have := (List.getElem?_eq_some_iff.1 (hcell k d hk)).1
     exact ⟨c[off + k]'(by omega), by simp [show off + k < c.size by omega]⟩
    refine .dptr ⟨b, off, none⟩ ds (fun k => c.getD (off + k) undef) (hl id hid _ b hb (by rw [hρ]; rfl)) (fun k d hk => ?_) (fun k d hk => ?_)
    ·obtain ⟨u, hu⟩ := hget k d hk
     have e : c.getD (off + k) undef = u := by simp [Array.getD_eq_getD_getElem?, hu]
     rw [e]
     refine ⟨?_, h1 _ _ hu⟩
     unfold World.cell?
     rw [add_block]
     simp only [hbk]
     have hs : (Addr.add ⟨b, off, none⟩ k).spot = none := by unfold Addr.add; split <;> rfl
     have ho : (Addr.add ⟨b, off, none⟩ k).off = off + k := by unfold Addr.add; split <;> simp_all
     rw [hs, ho]
     simpa using hu
    ·obtain ⟨u, hu⟩ := hget k d hk
     have e : c.getD (off + k) undef = u := by simp [Array.getD_eq_getD_getElem?, hu]
     rw [e]
     have := hS.2 (off + k) u (.dat d) (by simpa using hu) (hcell k d hk)
     cases this with
     | dat h => exact h
 | _ =>
  simp only [AV.peek] at h
  split at h <;> first | (cases h; done) | (rename_i hnp; exact plain _ (by simpa using hnp) h)
theorem peekL_sound {S : List Nat} (hH : RH C w Hp) (hF : ∀ b, C.Fz b → C'.Fz b) (hl : ∀ i ∈ S, ∀ b k, H[i]? = some b → Lies b (C.ρ i) k → C'.Fz k) (hall : ∀ i ∈ S, Hp i = H[i]?) : ∀ (l l' : List AV), AV.peekL H l = some l' →
  (∀ i ∈ AV.refsL l, i ∈ S) → (∀ i ∈ AV.refsL l, ∀ cs, H[i]? = some (Blk.box cs) → ∀ j ∈ AV.refsL cs, j ∈ S) → ∀ us, RL C w us l → RL C' w us l'
 | [], l', h, _, _, us, hR => by
  simp only [AV.peekL, Option.some.injEq] at h; subst h
  exact ⟨hR.1, fun j u x _ hx => by simp at hx⟩
 | x :: l, l', h, hin, hcl, us, hR => by
  simp only [AV.peekL] at h
  split at h <;> first | (cases h; done) | skip
  rename_i d ds hd hds
  simp only [Option.some.injEq] at h; subst h
  cases us with
  | nil => have := hR.1; simp at this
  | cons u us =>
   have h1 := peek_sound hH hF hl hd hall (fun i hi => hin i (by simp [AV.refsL, hi])) (fun i hi => hcl i (by simp [AV.refsL, hi])) (hR.2 0 u x rfl rfl)
   have h2 := peekL_sound hH hF hl hall l ds hds (fun i hi => hin i (by simp [AV.refsL, hi])) (fun i hi => hcl i (by simp [AV.refsL, hi])) us ⟨by have := hR.1; simpa using this, fun j u x hu hx => hR.2 (j + 1) u x (by simpa using hu) (by simpa using hx)⟩
   refine ⟨by simp [h2.1], fun j v y hv hy => ?_⟩
   cases j with
   | zero => simp at hv hy; subst hv hy; exact h1
   | succ j => exact h2.2 j v y (by simpa using hv) (by simpa using hy)
theorem RD.bare {F F' : Nat → Prop} {w w' : World} {v : Value} {d : Dat} (h : RD F w v d) (hb : bareLeaf d = true) : RD F' w' v d := by
 cases h <;> first | (cases hb; done) | constructor
theorem peekCall_sound (hcf : CFSound P cf) {g : Nat} {args args' : List AV} {d : Dat} (hstrip : AV.peekL H args = some args') (hr : cf g args' [] = some (.dat d, [])) (hb : bareLeaf d = true)
  {us : List Value} (hus : RL C w us args) (hG : GlR C w) (hH : RH C w Hp) (hHp : ∀ i ∈ peekRefs H args, Hp i = H[i]?) :
  Calls P g us.toArray w fun e w' => ∃ v, e = .returned v ∧ RV C w' v (.dat d) ∧ Local C C w w' H H Hp [] := by
 let Cc : Ctx := { ρ := C.ρ, sz := C.sz, D := fun _ => False, Fz := fun k => C.Fz k ∨ ∃ i ∈ peekRefs H args, ∃ b, H[i]? = some b ∧ Lies b (C.ρ i) k }
 have hsub : ∀ i ∈ AV.refsL args, i ∈ peekRefs H args := fun i hi => List.mem_append_left _ hi
 have hstripR : RL Cc w us args' := peekL_sound (C' := Cc) hH (fun _ h => .inl h) (fun i hi b k hb hk => .inr ⟨i, hi, b, hb, hk⟩) hHp args args' hstrip hsub (fun i hi cs hcs j hj => by
  refine List.mem_append_right _ (List.mem_flatMap.2 ⟨i, hi, ?_⟩)
  rw [hcs]; exact hj) us hus
 have hcl : ∀ k, Cc.Fz k → k < w.heap.size := by
  rintro k (h | ⟨i, hi, b, hb, hk⟩)
  ·exact hH.lt k h
  ·exact (hH.blk i b ((hHp i hi).trans hb)).lies_lt hk
 have hcall := hcf.calls g args' [] (.dat d) [] hr Cc w us hstripR (RH.empty hcl) (fun i => ⟨fun h => h.elim, fun h => by simp at h⟩) (hG.mono (fun _ h => .inl h) (fun _ _ => rfl))
 refine hcall.mono fun e w' hpost => ?_
 obtain ⟨v, C1, rfl, hV, L1⟩ := hpost
 simp only [List.length_nil, List.range_zero] at L1
 have hsame : ∀ k, k < w.heap.size → w'.heap[k]? = w.heap[k]? := fun k hk => (L1.frame k hk).resolve_right (by rintro ⟨i, hi, _⟩; cases hi)
 refine ⟨v, rfl, ?_, ?_⟩
 ·cases hV with
  | dat h => exact .dat (h.bare hb)
 ·have hno : ∀ {i}, ¬ Tch H H [] i := fun h => by
   rcases h with h | h
   ·cases h
   ·omega
  exact { keeps := ⟨fun _ h => h, fun k hk => hsame k (hH.lt k hk), fun _ h => h, fun _ _ => rfl, fun _ _ => rfl⟩, os := L1.os, tape := L1.tape, output := L1.output, size := L1.size, len := Nat.le_refl _,
          same := fun _ _ _ => rfl, frame := fun k hk => .inl (hsame k hk), newF := fun k h => .inl h, ltF := fun k h => Nat.lt_of_lt_of_le (hH.lt k h) L1.size, wrD := fun i hi => (by cases hi),
          dom := fun i => ⟨.inl, fun h => h.elim id (fun h => by omega)⟩, blk := fun i b h => absurd h hno, lies := fun i b k h => absurd h hno, inj := fun i j b b' k h => absurd h hno }
end Go.Ax
