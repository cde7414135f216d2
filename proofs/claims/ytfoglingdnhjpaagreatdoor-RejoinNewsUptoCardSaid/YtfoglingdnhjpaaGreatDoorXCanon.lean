/-
  Ax, text 21: new numbers, and what a loop's head keeps.
-/
import Derived.Test.YtfoglingdnhjpaaGreatDoorXDrawn
import Derived.LoopN
namespace Go.Ax
set_option linter.all false
set_option linter.unusedSectionVars false
open Go.RowKit
variable [Gls]
variable {P : Program} {C0 C C' : Ctx} {w0 w w' : World} {a : Act} {env : Env} {H0 H H' : List Blk} {cf : CallF} {av : AV} {N n0 : Nat} {s s' : St}
theorem get_ren (f : Nat → Nat) (n : Nat) : ∀ env : Env, get (env.map fun p => (p.1, p.2.ren f)) n = (get env n).ren f
 | [] => rfl
 | (k, v) :: r => by
  simp only [List.map_cons, get]
  split
  ·rfl
  ·exact get_ren f n r
theorem get_refs {n i : Nat} : ∀ {env : Env}, i ∈ (get env n).refs → i ∈ AV.refsL (env.map (·.2))
 | [], h => by simp [get, AV.refs] at h
 | (k, v) :: r, h => by
  simp only [get] at h
  simp only [List.map_cons, AV.refsL, List.mem_append]
  split at h
  ·exact .inl h
  ·exact .inr (get_refs h)
def ctxCanon (C : Ctx) (n0 : Nat) (ids : List Nat) : Ctx where
 ρ j := if j < n0 then C.ρ j else match ids[j - n0]? with
  | some i => C.ρ i
  | none => .none
 sz j := if j < n0 then C.sz j else match ids[j - n0]? with
  | some i => C.sz i
  | none => 0
 D j := j < n0 + ids.length
 Fz := C.Fz
theorem canon_sound (hd0 : ∀ i, C0.D i ↔ i < H0.length) (h : canon H0.length env H = some s') (hE : EnvR C w a env) (hH : RH C w (at_ H)) (hC : Cum C0 w0 H0 C w (at_ H)) :
  ∃ C', EnvR C' w a s'.env ∧ RH C' w (at_ s'.H) ∧ (∀ i, C'.D i ↔ i < s'.H.length) ∧ Cum C0 w0 H0 C' w (at_ s'.H) ∧ H0.length ≤ s'.H.length := by
 unfold canon at h
 simp only at h
 generalize hids : (reach H 4096 (AV.refsL (env.map (·.2)) ++ (List.range H0.length).flatMap (blkRefs H)) []).filter (fun i => decide (H0.length ≤ i)) = ids at h
 have hnd : ids.Nodup := by rw [← hids]; exact (reach_nodup H _ _ [] List.nodup_nil).filter _
 have hge : ∀ i ∈ ids, H0.length ≤ i := fun i hi => by rw [← hids] at hi; simpa using (List.mem_filter.1 hi).2
 split at h <;> first | (cases h; done) | skip
 rename_i hc
 simp only [Bool.and_eq_true, List.all_eq_true, Bool.or_eq_true, decide_eq_true_eq, List.contains_iff_mem] at hc
 obtain ⟨⟨⟨hc1, hc2⟩, hc3⟩, hc4⟩ := hc
 injection h with h
 let f : Nat → Nat := fun i => if i < H0.length then i else H0.length + ids.idxOf i
 let C' := ctxCanon C H0.length ids
 have hren : ∀ i, (i < H0.length ∨ i ∈ ids) → Ren C C' w w f i := fun i hi => by
  by_cases hlt : i < H0.length
  ·refine ⟨?_, ?_, ?_⟩ <;> simp only [f, C', ctxCanon, if_pos hlt]
   omega
  ·have hi := hi.resolve_left hlt
   have hx := List.idxOf_lt_length_of_mem hi
   have hg : ids[H0.length + ids.idxOf i - H0.length]? = some i := by
    rw [show H0.length + ids.idxOf i - H0.length = ids.idxOf i by omega, List.getElem?_eq_getElem hx, List.getElem_idxOf]
   refine ⟨?_, ?_, ?_⟩ <;> simp only [f, C', ctxCanon, if_neg hlt]
   ·omega
   ·rw [if_neg (by omega), hg]
   ·rw [if_neg (by omega), hg]
 have hH' : ∀ j b, at_ s'.H j = some b → ∃ i b0, H[i]? = some b0 ∧ b = b0.ren f ∧ C'.ρ j = C.ρ i ∧ C'.sz j = C.sz i ∧ (∀ r ∈ b0.refs, r < H0.length ∨ r ∈ ids) ∧ ((j < H0.length ∧ i = j) ∨ (H0.length ≤ j ∧ ids[j - H0.length]? = some i)) := by
  intro j b hb
  rw [← h] at hb
  simp only [at_] at hb
  have hlt0 : ((H.take H0.length).map (Blk.ren f)).length = H0.length := by simp; omega
  by_cases hj : j < H0.length
  ·rw [List.getElem?_append_left (by rw [hlt0]; exact hj)] at hb
   simp only [List.getElem?_map, List.getElem?_take, if_pos hj, Option.map_eq_some_iff] at hb
   obtain ⟨b0, hb0, rfl⟩ := hb
   refine ⟨j, b0, hb0, rfl, if_pos hj, if_pos hj, fun r hr => ?_, .inl ⟨hj, rfl⟩⟩
   have := hc2 j (List.mem_range.2 hj) r
   simp only [blkRefs, hb0] at this
   exact this hr
  ·rw [List.getElem?_append_right (by rw [hlt0]; omega), hlt0] at hb
   simp only [List.getElem?_map, Option.map_eq_some_iff] at hb
   obtain ⟨i, hi, rfl⟩ := hb
   have him := List.mem_of_getElem? hi
   obtain ⟨h1, h2⟩ := hc3 i him
   refine ⟨i, H[i], List.getElem?_eq_getElem h1, by simp [List.getD, h1, f], ?_, ?_, fun r hr => ?_, .inr ⟨by omega, hi⟩⟩
   ·simp only [C', ctxCanon, if_neg hj, hi]
   ·simp only [C', ctxCanon, if_neg hj, hi]
   ·refine h2 r ?_
    simp only [blkRefs, List.getElem?_eq_getElem h1]
    exact hr
 have hlen : s'.H.length = H0.length + ids.length := by rw [← h]; simp; omega
 refine ⟨C', ?_, ⟨fun j b hb => ?_, fun j b hb => ?_, fun i j b b' k hi hj hli hlj => ?_, hH.lt⟩, fun i => ?_, ⟨⟨hC.keeps.fz, hC.keeps.blk, fun i hi => ?_, fun i hi => ?_, fun i hi => ?_⟩, hC.os, hC.tape, hC.output, hC.size, hC.frame, hC.newF, fun i b k hi hl => ?_⟩, ?_⟩
 ·refine ⟨fun n => ?_, GlR.mono (C := C) (C' := C') (fun _ h => h) (fun _ _ => rfl) hE.gl⟩
  rw [← h]
  show RV C' w _ (get (env.map fun p => (p.1, p.2.ren f)) n)
  rw [get_ren]
  exact RV.rename (C := C) (C' := C') (fun _ h => h) (fun _ _ => rfl) _ _ (hE n) (fun i hi _ => hren i (hc1 i (get_refs hi)))
 ·show j < H0.length + ids.length
  have := (List.getElem?_eq_some_iff.1 hb).1
  omega
 ·obtain ⟨i, b0, h1, rfl, h3, h4, h5, _⟩ := hH' j b hb
  exact (hH.blk i b0 h1).ren h3 h4 rfl (fun r hr _ => hren r (h5 r hr))
 ·obtain ⟨i1, b1, h1, rfl, h3, _, _, h6⟩ := hH' i b hi
  obtain ⟨j1, b2, g1, rfl, g3, _, _, g6⟩ := hH' j b' hj
  rw [h3] at hli; rw [g3] at hlj
  have := hH.inj i1 j1 b1 b2 k h1 g1 (Lies.ren.1 hli) (Lies.ren.1 hlj)
  subst this
  rcases h6 with ⟨h6, rfl⟩ | ⟨h6, h7⟩ <;> rcases g6 with ⟨g6, rfl⟩ | ⟨g6, g7⟩
  ·rfl
  ·have := hge _ (List.mem_of_getElem? g7); omega
  ·have := hge _ (List.mem_of_getElem? h7); omega
  ·have e1 := List.getElem?_eq_some_iff.1 h7
   have e2 := List.getElem?_eq_some_iff.1 g7
   obtain ⟨l1, e1⟩ := e1
   obtain ⟨l2, e2⟩ := e2
   have := (List.getElem_inj hnd).1 (e1.trans e2.symm)
   omega
 ·rw [hlen]; exact Iff.rfl
 ·have := (hd0 i).1 hi; show i < H0.length + ids.length; omega
 ·have := (hd0 i).1 hi
  exact (if_pos this).trans (hC.keeps.rho i hi)
 ·have := (hd0 i).1 hi
  exact (if_pos this).trans (hC.keeps.siz i hi)
 ·obtain ⟨i1, b1, h1, rfl, h3, _, _, _⟩ := hH' i b hi
  rw [h3] at hl
  exact hC.lies i1 b1 k h1 (Lies.ren.1 hl)
 ·omega
theorem keepEnv_sound (h0 : RH C0 w0 (at_ H0)) : ∀ (keep : List (Nat × Option (Nat × Nat × Bool))) (C : Ctx) (H : List Blk), EnvR C w a env → RH C w (at_ H) → (∀ i, C.D i ↔ i < H.length) → Cum C0 w0 H0 C w (at_ H) →
  ∃ C', Keeps C C' w w ∧ EnvR C' w a (keepEnv env H keep).1 ∧ RH C' w (at_ (keepEnv env H keep).2) ∧ (∀ i, C'.D i ↔ i < (keepEnv env H keep).2.length) ∧ Cum C0 w0 H0 C' w (at_ (keepEnv env H keep).2) ∧ H.length ≤ (keepEnv env H keep).2.length
 | [], C, H, hE, hH, hD, hC => ⟨C, Keeps.refl C w, ⟨fun _ => .top _, hE.gl⟩, hH, hD, hC, Nat.le_refl _⟩
 | (n, t) :: r, C, H, hE, hH, hD, hC => by
  have plain : ∃ C', Keeps C C' w w ∧ EnvR C' w a ((n, get env n) :: (keepEnv env H r).1) ∧ RH C' w (at_ (keepEnv env H r).2) ∧ (∀ i, C'.D i ↔ i < (keepEnv env H r).2.length) ∧ Cum C0 w0 H0 C' w (at_ (keepEnv env H r).2) ∧ H.length ≤ (keepEnv env H r).2.length := by
   obtain ⟨C', hK, h1, h2, h3, h4, h5⟩ := keepEnv_sound h0 r C H hE hH hD hC
   refine ⟨C', hK, ⟨fun m => ?_, h1.gl⟩, h2, h3, h4, h5⟩
   simp only [get]
   split
   ·rename_i e; subst e; exact (hE n).keeps hK
   ·exact h1 m
  cases t with
  | none => exact plain
  | some p =>
   obtain ⟨e, sz, fl⟩ := p
   simp only [keepEnv]
   split
   ·rename_i e' sz' fl' hn
    split
    ·exact plain
    ·rename_i hsz
     have hN : ¬ C.D H.length := fun h => by have := (hD _).1 h; omega
     have hK : Keeps C (ctxNew C H [] .none sz) w w := ctxNew_keeps hH _ _ _ hN (fun _ _ => rfl)
     have L : Local C (ctxNew C H [] .none sz) w w H (freeze [] H ++ [.arr e sz fl false []]) (at_ H) [] := by
      refine Local.ext hH [] [.arr e sz fl false []] (fun _ => False) (fun i hi => by cases hi) (fun i hi => by cases hi) hK.rho hK.siz (fun i => ?_) (fun k => ?_) rfl rfl rfl (Nat.le_refl _) (fun _ _ => rfl) (fun _ h => h.elim) (fun j b hb => ?_)
       (fun j b k hb hk => ?_) (fun i j b1 b2 k hi hj _ _ => ?_)
      ·simp only [ctxNew, List.length_cons, List.length_nil]
       constructor
       ·rintro (h | h)
        ·exact .inl h
        ·exact .inr ⟨by omega, by omega⟩
       ·rintro (h | h)
        ·exact .inl h
        ·exact .inr (by omega)
      ·simp only [ctxNew]
       constructor
       ·rintro (h | h)
        ·exact .inl h
        ·exact .inr (.inl h)
       ·rintro (h | h | h)
        ·exact .inl h
        ·exact .inr h
        ·exact h.2.elim
      ·cases j with
       | zero => simp only [List.getElem?_cons_zero, Option.some.injEq] at hb; subst hb; exact .arr0 e sz fl false (by simp [ctxNew]) (by simp [ctxNew]) (by omega)
       | succ j => simp at hb
      ·cases j with
       | zero =>
        simp only [List.getElem?_cons_zero, Option.some.injEq] at hb; subst hb
        simp [ctxNew, Lies] at hk
       | succ j => simp at hb
      ·cases i with
       | zero => cases j with
        | zero => rfl
        | succ j => simp at hj
       | succ i => simp at hi
     rw [freeze_nil] at L
     have hup : upd (at_ H) H (H ++ [.arr e sz fl false []]) [] = at_ (H ++ [.arr e sz fl false []]) := upd_at L.same
     have hH1 := L.heap hH
     rw [hup] at hH1
     have hC1 := hC.step h0 hH L
     rw [hup] at hC1
     have hD1 : ∀ i, (ctxNew C H [] .none sz).D i ↔ i < (H ++ [Blk.arr e sz fl false []]).length := fun i => by
      rw [L.dom i, hD i]; simp; omega
     obtain ⟨C', hK', h1, h2, h3, h4, h5⟩ := keepEnv_sound h0 r _ _ ⟨fun m => (hE m).keeps hK, hE.gl.keeps hK⟩ hH1 hD1 hC1
     refine ⟨C', hK.trans hK', ⟨fun m => ?_, h1.gl⟩, h2, h3, h4, Nat.le_trans (by simp) h5⟩
     simp only [get]
     split
     ·rename_i e2; subst e2
      have := hE n
      rw [hn] at this
      generalize a.tmps.getD n undef = u at this
      cases this with
      | nil =>
       refine .own0 _ _ (hK'.dom _ (.inr rfl)) ((hK'.rho _ (.inr rfl)).trans ?_)
       simp [ctxNew]
     ·exact h1 m
   ·exact plain
theorem head_sound [DefL] (h0 : RH C0 w0 (at_ H0)) (hd0 : ∀ i, C0.D i ↔ i < H0.length) {keep : List (Nat × Option (Nat × Nat × Bool))} (h : headOf H0.length keep s = some s') (hS : SR C0 w0 H0 N C a w s) : ∃ C', SR C0 w0 H0 N C' a w s' := by
 obtain ⟨C1, _, h1, h2, _, h4, _⟩ := keepEnv_sound h0 keep C s.H hS.env hS.heap hS.dom hS.cum
 obtain ⟨C2, g1, g2, g3, g4, g5⟩ := canon_sound hd0 h h1 h2 h4
 exact ⟨C2, g1, g2, g3, g4, g5, hS.tmps, hS.defers⟩
theorem restrict_sound [DefL] (hS : SR C0 w0 H0 N C a w s) (keep : List Nat) : SR C0 w0 H0 N C a w ⟨restrict s.env keep, s.H⟩ := by
 refine ⟨⟨fun n => ?_, hS.env.gl⟩, hS.heap, hS.dom, hS.cum, hS.len, hS.tmps, hS.defers⟩
 show RV C w _ (get (restrict s.env keep) n)
 unfold restrict
 rw [get_map]
 split
 ·exact hS.env n
 ·exact .top _
end Go.Ax
