/-
  Ax, text 13: calls.
-/
import Derived.Test.YtfoglingdnhjpaaGreatDoorXMem
namespace Go.Ax
set_option linter.all false
set_option linter.unusedSectionVars false
open Go.RowKit
variable [Gls]
variable {P : Program} {C C' : Ctx} {w w' : World} {a : Act} {env : Env} {H H' : List Blk} {cf : CallF} {av : AV} {o : Oper} {xo : XOp} {Hp : Nat → Option Blk} {wr : List Nat}
structure Ren (C C' : Ctx) (w w' : World) (f : Nat → Nat) (i : Nat) : Prop where
 dom : C'.D (f i)
 rho : C'.ρ (f i) = C.ρ i
 siz : C'.sz (f i) = C.sz i
mutual
theorem RV.rename {f : Nat → Nat} (hF : ∀ b, C.Fz b → C'.Fz b) (hw : ∀ b, C.Fz b → w'.heap[b]? = w.heap[b]?) : ∀ (x : AV) (v : Value), RV C w v x → (∀ i ∈ x.refs, C.D i → Ren C C' w w' f i) → RV C' w' v (x.ren f)
 | .dat d, v, h, _ => by cases h with | dat h => exact .dat (h.keeps hF hw)
 | .ptr id off, v, h, hr => by
  cases h with
  | ptr _ _ b hD h => exact .ptr _ _ _ (hr id (by simp [AV.refs]) hD).dom ((hr id (by simp [AV.refs]) hD).rho.trans h)
 | .mref id, v, h, hr => by
  cases h with
  | mref _ b hD h => exact .mref _ _ (hr id (by simp [AV.refs]) hD).dom ((hr id (by simp [AV.refs]) hD).rho.trans h)
 | .eptr id i off, v, h, hr => by
  cases h with
  | eptr _ _ _ g cap hD h =>
   have hR := hr id (by simp [AV.refs]) hD
   rw [← hR.siz]; exact .eptr _ _ _ g cap hR.dom (hR.rho.trans h)
 | .dptr cs, v, h, _ => by
  cases h with
  | dptr ad _ vs hF' hv hd =>
   refine .dptr ad cs vs (hF _ hF') (fun k d hk => ⟨?_, (hv k d hk).2⟩) (fun k d hk => (hd k d hk).keeps hF hw)
   rw [World.cell?_of_block (w := w) (by rw [add_block]; exact hw _ hF')]
   exact (hv k d hk).1
 | .own id off len, v, h, hr => by
  cases h with
  | own _ _ _ g cap hD h hl =>
   have hR := hr id (by simp [AV.refs]) hD
   rw [← hR.siz]; exact .own _ _ _ g cap hR.dom (hR.rho.trans h) hl
  | own0 b _ hD h =>
   have hR := hr id (by simp [AV.refs]) hD
   exact .own0 b _ hR.dom (hR.rho.trans h)
 | .nil e sz fl, v, h, _ => by cases h; exact .nil _ e sz fl
 | .agg cs, v, h, hr => by
  cases h with
  | agg vs _ hn h =>
   have := RL.rename hF hw cs vs.toList ⟨by simpa using hn, fun j u x hu hx => h j x u hx (by simpa using hu)⟩ (fun i hi => hr i (by simpa [AV.refs] using hi))
   exact .agg vs _ (by simpa using this.1) (fun j c v hc hv => this.2 j v c (by simpa using hv) hc)
 | .tup cs, v, h, hr => by
  cases h with
  | tup vs _ hn h =>
   have := RL.rename hF hw cs vs.toList ⟨by simpa using hn, fun j u x hu hx => h j x u hx (by simpa using hu)⟩ (fun i hi => hr i (by simpa [AV.refs] using hi))
   exact .tup vs _ (by simpa using this.1) (fun j c v hc hv => this.2 j v c (by simpa using hv) hc)
 | .ifc t x, v, h, hr => by
  cases h with
  | ifc _ v _ h => exact .ifc t v _ (RV.rename hF hw x v h (fun i hi => hr i (by simpa [AV.refs] using hi)))
 | .fn g xs ys, v, h, hr => by
  cases h with
  | fn _ as cs _ _ hn hm h h' =>
   have h1 := RL.rename hF hw xs as.toList ⟨by simpa using hn, fun j u x hu hx => h j x u hx (by simpa using hu)⟩ (fun i hi => hr i (by simp [AV.refs, hi]))
   have h2 := RL.rename hF hw ys cs.toList ⟨by simpa using hm, fun j u x hu hx => h' j x u hx (by simpa using hu)⟩ (fun i hi => hr i (by simp [AV.refs, hi]))
   exact .fn g as cs _ _ (by simpa using h1.1) (by simpa using h2.1) (fun j c v hc hv => h1.2 j v c (by simpa using hv) hc) (fun j c v hc hv => h2.2 j v c (by simpa using hv) hc)
 | .top, v, _, _ => .top v
theorem RL.rename {f : Nat → Nat} (hF : ∀ b, C.Fz b → C'.Fz b) (hw : ∀ b, C.Fz b → w'.heap[b]? = w.heap[b]?) : ∀ (l : List AV) (us : List Value), RL C w us l → (∀ i ∈ AV.refsL l, C.D i → Ren C C' w w' f i) → RL C' w' us (AV.renL f l)
 | [], us, h, _ => ⟨by simpa [AV.renL] using h.1, fun j u x _ hx => by simp [AV.renL] at hx⟩
 | x :: l, us, h, hr => by
  cases us with
  | nil => have := h.1; simp at this
  | cons u us =>
   have h1 := RV.rename hF hw x u (h.2 0 u x rfl rfl) (fun i hi => hr i (by simp [AV.refsL, hi]))
   have h2 := RL.rename hF hw l us (by simpa using h.drop 1) (fun i hi => hr i (by simp [AV.refsL, hi]))
   exact RL.cons h1 h2
end
mutual
theorem AV.ren_id : ∀ x : AV, x.ren (fun i => i) = x
 | .agg cs => by simp only [AV.ren, AV.renL_id cs]
 | .tup cs => by simp only [AV.ren, AV.renL_id cs]
 | .fn g xs ys => by simp only [AV.ren, AV.renL_id xs, AV.renL_id ys]
 | .ifc t x => by simp only [AV.ren, AV.ren_id x]
 | .dat _ | .ptr _ _ | .eptr _ _ _ | .dptr _ | .mref _ | .own _ _ _ | .nil _ _ _ | .top => rfl
theorem AV.renL_id : ∀ l : List AV, AV.renL (fun i => i) l = l
 | [] => rfl
 | x :: l => by simp only [AV.renL, AV.ren_id x, AV.renL_id l]
end
theorem RV.move {x : AV} {v : Value} (h : RV C w v x) (hF : ∀ b, C.Fz b → C'.Fz b) (hw : ∀ b, C.Fz b → w'.heap[b]? = w.heap[b]?) (hr : ∀ i ∈ x.refs, C.D i → C'.D i ∧ C'.ρ i = C.ρ i ∧ C'.sz i = C.sz i) : RV C' w' v x := by
 have := RV.rename (f := fun i => i) hF hw x v h (fun i hi hD => ⟨(hr i hi hD).1, (hr i hi hD).2.1, (hr i hi hD).2.2⟩)
 rwa [AV.ren_id] at this
theorem RL.move {l : List AV} {us : List Value} (h : RL C w us l) (hF : ∀ b, C.Fz b → C'.Fz b) (hw : ∀ b, C.Fz b → w'.heap[b]? = w.heap[b]?) (hr : ∀ i ∈ AV.refsL l, C.D i → C'.D i ∧ C'.ρ i = C.ρ i ∧ C'.sz i = C.sz i) : RL C' w' us l := by
 have := RL.rename (f := fun i => i) hF hw l us h (fun i hi hD => ⟨(hr i hi hD).1, (hr i hi hD).2.1, (hr i hi hD).2.2⟩)
 rwa [AV.renL_id] at this
mutual
def AV.ptrs : AV → List Nat
 | .ptr id _ | .eptr id _ _ | .mref id => [id]
 | .agg cs => AV.ptrsL cs
 | .tup cs => AV.ptrsL cs
 | .ifc _ v => v.ptrs
 | .fn _ f c => AV.ptrsL f ++ AV.ptrsL c
 | _ => []
def AV.ptrsL : List AV → List Nat
 | [] => []
 | v :: r => v.ptrs ++ AV.ptrsL r
end
mutual
theorem ptrs_nil : ∀ x : AV, x.hasPtr = false → x.ptrs = []
 | .agg cs, h => by simp only [AV.ptrs]; exact ptrsL_nil cs (by simpa [AV.hasPtr] using h)
 | .tup cs, h => by simp only [AV.ptrs]; exact ptrsL_nil cs (by simpa [AV.hasPtr] using h)
 | .ifc _ x, h => by simp only [AV.ptrs]; exact ptrs_nil x (by simpa [AV.hasPtr] using h)
 | .fn _ a c, h => by
  simp only [AV.hasPtr, Bool.or_eq_false_iff] at h
  simp only [AV.ptrs, ptrsL_nil a h.1, ptrsL_nil c h.2, List.append_nil]
 | .ptr _ _, h => by simp [AV.hasPtr] at h
 | .eptr _ _ _, h => by simp [AV.hasPtr] at h
 | .mref _, h => by simp [AV.hasPtr] at h
 | .dat _, _ | .dptr _, _ | .own _ _ _, _ | .nil _ _ _, _ | .top, _ => rfl
theorem ptrsL_nil : ∀ l : List AV, AV.hasPtrL l = false → AV.ptrsL l = []
 | [], _ => rfl
 | x :: l, h => by
  simp only [AV.hasPtrL, Bool.or_eq_false_iff] at h
  simp only [AV.ptrsL, ptrs_nil x h.1, ptrsL_nil l h.2, List.append_nil]
end
mutual
theorem ptrs_refs : ∀ (x : AV), ∀ i ∈ x.ptrs, i ∈ x.refs
 | .agg cs, i, hi => by simp only [AV.refs]; exact ptrsL_refs cs i (by simpa [AV.ptrs] using hi)
 | .tup cs, i, hi => by simp only [AV.refs]; exact ptrsL_refs cs i (by simpa [AV.ptrs] using hi)
 | .ifc _ x, i, hi => by simp only [AV.refs]; exact ptrs_refs x i (by simpa [AV.ptrs] using hi)
 | .fn _ a c, i, hi => by
  simp only [AV.ptrs, List.mem_append] at hi
  simp only [AV.refs, List.mem_append]
  exact hi.imp (ptrsL_refs a i) (ptrsL_refs c i)
 | .ptr _ _, i, hi => by simpa [AV.ptrs, AV.refs] using hi
 | .eptr _ _ _, i, hi => by simpa [AV.ptrs, AV.refs] using hi
 | .mref _, i, hi => by simpa [AV.ptrs, AV.refs] using hi
 | .own _ _ _, i, hi => by cases hi
 | .dat _, i, hi => by cases hi
 | .dptr _, i, hi => by cases hi
 | .nil _ _ _, i, hi => by cases hi
 | .top, i, hi => by cases hi
theorem ptrsL_refs : ∀ (l : List AV), ∀ i ∈ AV.ptrsL l, i ∈ AV.refsL l
 | [], i, hi => by cases hi
 | x :: l, i, hi => by
  simp only [AV.ptrsL, List.mem_append] at hi
  simp only [AV.refsL, List.mem_append]
  exact hi.imp (ptrs_refs x i) (ptrsL_refs l i)
end
theorem refsL_mem : ∀ {l : List AV} {x : AV} {i : Nat}, x ∈ l → i ∈ x.refs → i ∈ AV.refsL l
 | y :: l, x, i, hx, hi => by
  simp only [AV.refsL, List.mem_append]
  rcases List.mem_cons.1 hx with rfl | hx
  ·exact .inl hi
  ·exact .inr (refsL_mem hx hi)
theorem allDat_eq : ∀ {cs : List AV} {ds : List Dat}, allDat cs = some ds → cs = ds.map .dat
 | [], ds, h => by simp only [allDat, Option.some.injEq] at h; subst h; rfl
 | x :: r, ds, h => by
  cases x <;> simp only [allDat] at h <;> first | (cases h; done) | skip
  split at h <;> first | (cases h; done) | skip
  rename_i l hl
  injection h with h; subst h
  rw [allDat_eq hl]; rfl
theorem RV.mkAggV {cs : List AV} {v : Value} (h : RV C w v (.agg cs)) : RV C w v (mkAggV cs) := by
 unfold Ax.mkAggV
 split
 ·rename_i ds hd
  have := allDat_eq hd
  subst this
  cases h with
  | agg vs _ hn h =>
   refine .dat (.agg vs ds (by simpa using hn) (fun j d v hd hv => ?_))
   have := h j (.dat d) v (by simp [hd]) hv
   cases this with
   | dat h => exact h
 ·exact h
theorem mkAggV_refs {cs : List AV} : ∀ i ∈ (Ax.mkAggV cs).refs, i ∈ AV.refsL cs := by
 intro i hi
 unfold Ax.mkAggV at hi
 split at hi
 ·simp [AV.refs] at hi
 ·exact hi
mutual
theorem strip_sound (hH : RH C w Hp) (hF : ∀ b, C.Fz b → C'.Fz b) : ∀ (x x' : AV), x.strip H = some x' → (∀ i ∈ x.refs, Hp i = H[i]?) → (∀ i ∈ x.owns, ∀ b k, H[i]? = some b → Lies b (C.ρ i) k → C'.Fz k) →
  (∀ i ∈ x.ptrs, C.D i → C'.D i ∧ C'.ρ i = C.ρ i ∧ C'.sz i = C.sz i) → ∀ v, RV C w v x → RV C' w v x'
 | .own id off len, x', h, hHp, hl, hr, v, hv => by
  simp only [AV.strip] at h
  split at h <;> first | (cases h; done) | skip
  rename_i e sz fl fz xs hb
  split at h <;> first | (cases h; done) | skip
  rename_i hle
  simp only [Option.some.injEq] at h; subst h
  exact .dat (own_RD (hH.blk id _ ((hHp id (by simp [AV.refs])).trans hb)) hle hF (fun k hk => hl id (by simp [AV.owns]) _ k hb hk) hv)
 | .agg cs, x', h, hHp, hl, hr, v, hv => by
  simp only [AV.strip, Option.map_eq_some_iff] at h
  obtain ⟨cs', hcs, rfl⟩ := h
  cases hv with
  | agg vs _ hn h =>
   have := stripL_sound hH hF cs cs' hcs (fun i hi => hHp i (by simpa [AV.refs] using hi)) (fun i hi => hl i (by simpa [AV.owns] using hi)) (fun i hi => hr i (by simpa [AV.ptrs] using hi)) vs.toList ⟨by simpa using hn, fun j u x hu hx => h j x u hx (by simpa using hu)⟩
   exact RV.mkAggV (.agg vs _ (by simpa using this.1) (fun j c v hc hv => this.2 j v c (by simpa using hv) hc))
 | .ifc t x, x', h, hHp, hl, hr, v, hv => by
  simp only [AV.strip, Option.map_eq_some_iff] at h
  obtain ⟨y, hy, rfl⟩ := h
  cases hv with
  | ifc _ v _ hv => exact .ifc t v _ (strip_sound hH hF x y hy (fun i hi => hHp i (by simpa [AV.refs] using hi)) (fun i hi => hl i (by simpa [AV.owns] using hi)) (fun i hi => hr i (by simpa [AV.ptrs] using hi)) v hv)
 | .fn g xs ys, x', h, hHp, hl, hr, v, hv => by
  simp only [AV.strip] at h
  split at h <;> first | (cases h; done) | skip
  rename_i xs' hxs
  simp only [Option.map_eq_some_iff] at h
  obtain ⟨ys', hys, rfl⟩ := h
  cases hv with
  | fn _ as cs _ _ hn hm h h' =>
   have h1 := stripL_sound hH hF xs xs' hxs (fun i hi => hHp i (by simp [AV.refs, hi])) (fun i hi => hl i (by simp [AV.owns, hi])) (fun i hi => hr i (by simp [AV.ptrs, hi])) as.toList ⟨by simpa using hn, fun j u x hu hx => h j x u hx (by simpa using hu)⟩
   have h2 := stripL_sound hH hF ys ys' hys (fun i hi => hHp i (by simp [AV.refs, hi])) (fun i hi => hl i (by simp [AV.owns, hi])) (fun i hi => hr i (by simp [AV.ptrs, hi])) cs.toList ⟨by simpa using hm, fun j u x hu hx => h' j x u hx (by simpa using hu)⟩
   exact .fn g as cs _ _ (by simpa using h1.1) (by simpa using h2.1) (fun j c v hc hv => h1.2 j v c (by simpa using hv) hc) (fun j c v hc hv => h2.2 j v c (by simpa using hv) hc)
 | .dat d, x', h, _, _, hr, v, hv => by
  simp only [AV.strip, Option.some.injEq] at h; subst h
  exact hv.move hF (fun _ _ => rfl) (by first | exact hr | (intro i hi; cases hi))
 | .ptr _ _, x', h, _, _, hr, v, hv => by
  simp only [AV.strip, Option.some.injEq] at h; subst h
  exact hv.move hF (fun _ _ => rfl) (by first | exact hr | (intro i hi; cases hi))
 | .eptr _ _ _, x', h, _, _, hr, v, hv => by
  simp only [AV.strip, Option.some.injEq] at h; subst h
  exact hv.move hF (fun _ _ => rfl) (by first | exact hr | (intro i hi; cases hi))
 | .mref _, x', h, _, _, hr, v, hv => by
  simp only [AV.strip, Option.some.injEq] at h; subst h
  exact hv.move hF (fun _ _ => rfl) (by first | exact hr | (intro i hi; cases hi))
 | .dptr _, x', h, _, _, hr, v, hv => by
  simp only [AV.strip, Option.some.injEq] at h; subst h
  exact hv.move hF (fun _ _ => rfl) (by first | exact hr | (intro i hi; cases hi))
 | .nil _ sz fl, x', h, _, _, hr, v, hv => by
  simp only [AV.strip, Option.some.injEq] at h; subst h
  cases hv with
  | nil => exact .dat (.sl0 _ 0 sz fl (fun _ => rfl))
 | .tup _, x', h, _, _, _, _, _ => by simp [AV.strip] at h
 | .top, x', h, _, _, _, _, _ => by simp [AV.strip] at h
theorem stripL_sound (hH : RH C w Hp) (hF : ∀ b, C.Fz b → C'.Fz b) : ∀ (l l' : List AV), AV.stripL H l = some l' → (∀ i ∈ AV.refsL l, Hp i = H[i]?) → (∀ i ∈ AV.ownsL l, ∀ b k, H[i]? = some b → Lies b (C.ρ i) k → C'.Fz k) →
  (∀ i ∈ AV.ptrsL l, C.D i → C'.D i ∧ C'.ρ i = C.ρ i ∧ C'.sz i = C.sz i) → ∀ us, RL C w us l → RL C' w us l'
 | [], l', h, _, _, _, us, hR => by
  simp only [AV.stripL, Option.some.injEq] at h; subst h
  exact ⟨hR.1, fun j u x _ hx => by simp at hx⟩
 | x :: l, l', h, hHp, hl, hr, us, hR => by
  simp only [AV.stripL] at h
  split at h <;> first | (cases h; done) | skip
  rename_i d hd
  split at h <;> first | (cases h; done) | skip
  rename_i r hr'
  simp only [Option.some.injEq] at h; subst h
  cases us with
  | nil => have := hR.1; simp at this
  | cons u us =>
   exact RL.cons (strip_sound hH hF x d hd (fun i hi => hHp i (by simp [AV.refsL, hi])) (fun i hi => hl i (by simp [AV.ownsL, hi])) (fun i hi => hr i (by simp [AV.ptrsL, hi])) u (hR.2 0 u x rfl rfl))
    (stripL_sound hH hF l r hr' (fun i hi => hHp i (by simp [AV.refsL, hi])) (fun i hi => hl i (by simp [AV.ownsL, hi])) (fun i hi => hr i (by simp [AV.ptrsL, hi])) us (by simpa using hR.drop 1))
end
def FnPost (C : Ctx) (w : World) (H : List Blk) (r : AV) (H' : List Blk) (e : Ending) (w' : World) : Prop :=
 ∃ v C', e = .returned v ∧ RV C' w' v r ∧ Local C C' w w' H H' (at_ H) (List.range H.length)
structure CFSound [Gls] (P : Program) (cf : CallF) : Prop where
 fn : ∀ f args H r H', cf f args H = some (r, H') → ∃ fn, P.funcs[f]? = some fn ∧ (fn.name == "runtime.NumGoroutine") = false ∧ fn.body.isNone = false
 calls : ∀ f args H r H', cf f args H = some (r, H') → ∀ (C : Ctx) (w : World) (vs : List Value), RL C w vs args → RH C w (at_ H) → (∀ i, C.D i ↔ i < H.length) → GlR C w → Calls P f vs.toArray w (FnPost C w H r H')
mutual
theorem owns_refs : ∀ (x : AV), ∀ i ∈ x.owns, i ∈ x.refs
 | .own _ _ _, i, hi => by simpa [AV.owns, AV.refs] using hi
 | .agg cs, i, hi => by simp only [AV.refs]; exact ownsL_refs cs i (by simpa [AV.owns] using hi)
 | .ifc _ x, i, hi => by simp only [AV.refs]; exact owns_refs x i (by simpa [AV.owns] using hi)
 | .fn _ a c, i, hi => by
  simp only [AV.owns, List.mem_append] at hi
  simp only [AV.refs, List.mem_append]
  exact hi.imp (ownsL_refs a i) (ownsL_refs c i)
 | .dat _, i, hi => by cases hi
 | .ptr _ _, i, hi => by cases hi
 | .eptr _ _ _, i, hi => by cases hi
 | .dptr _, i, hi => by cases hi
 | .mref _, i, hi => by first | cases hi | simpa [AV.owns, AV.refs] using hi
 | .nil _ _ _, i, hi => by cases hi
 | .tup _, i, hi => by cases hi
 | .top, i, hi => by cases hi
theorem ownsL_refs : ∀ (l : List AV), ∀ i ∈ AV.ownsL l, i ∈ AV.refsL l
 | [], i, hi => by cases hi
 | x :: l, i, hi => by
  simp only [AV.ownsL, List.mem_append] at hi
  simp only [AV.refsL, List.mem_append]
  exact hi.imp (owns_refs x i) (ownsL_refs l i)
end
mutual
theorem strip_owns : ∀ (x x' : AV), x.strip H = some x' → ∀ i ∈ x.owns, ∃ e sz fl fz xs, H[i]? = some (.arr e sz fl fz xs)
 | .own id off len, x', h, i, hi => by
  simp only [AV.owns, List.mem_singleton] at hi; subst hi
  simp only [AV.strip] at h
  split at h <;> first | (cases h; done) | skip
  rename_i e sz fl fz xs hb
  exact ⟨e, sz, fl, fz, xs, hb⟩
 | .agg cs, x', h, i, hi => by
  simp only [AV.strip, Option.map_eq_some_iff] at h
  obtain ⟨cs', hcs, rfl⟩ := h
  exact stripL_owns cs cs' hcs i (by simpa [AV.owns] using hi)
 | .ifc t x, x', h, i, hi => by
  simp only [AV.strip, Option.map_eq_some_iff] at h
  obtain ⟨y, hy, rfl⟩ := h
  exact strip_owns x y hy i (by simpa [AV.owns] using hi)
 | .fn g xs ys, x', h, i, hi => by
  simp only [AV.strip] at h
  split at h <;> first | (cases h; done) | skip
  rename_i xs' hxs
  simp only [Option.map_eq_some_iff] at h
  obtain ⟨ys', hys, rfl⟩ := h
  simp only [AV.owns, List.mem_append] at hi
  rcases hi with hi | hi
  ·exact stripL_owns xs xs' hxs i hi
  ·exact stripL_owns ys ys' hys i hi
 | .dat _, _, _, i, hi => by cases hi
 | .ptr _ _, _, _, i, hi => by cases hi
 | .eptr _ _ _, _, _, i, hi => by cases hi
 | .dptr _, _, _, i, hi => by cases hi
 | .nil _ _ _, _, _, i, hi => by cases hi
 | .tup _, _, _, i, hi => by cases hi
 | .top, _, _, i, hi => by cases hi
theorem stripL_owns : ∀ (l l' : List AV), AV.stripL H l = some l' → ∀ i ∈ AV.ownsL l, ∃ e sz fl fz xs, H[i]? = some (.arr e sz fl fz xs)
 | [], _, _, i, hi => by cases hi
 | x :: l, l', h, i, hi => by
  simp only [AV.stripL] at h
  split at h <;> first | (cases h; done) | skip
  rename_i d hd
  split at h <;> first | (cases h; done) | skip
  rename_i r hr
  simp only [AV.ownsL, List.mem_append] at hi
  rcases hi with hi | hi
  ·exact strip_owns x d hd i hi
  ·exact stripL_owns l r hr i hi
end
theorem Local.widen (L : Local C C' w w' H H' Hp wr) (hH : RH C w Hp) {wr2 : List Nat} (hsub : ∀ i ∈ wr, i ∈ wr2) (hHp : ∀ i ∈ wr2, Hp i = H[i]?) (hlt : ∀ i ∈ wr2, i < H.length) : Local C C' w w' H H' Hp wr2 := by
 have hR := L.heap hH
 have hupd : ∀ i b, Tch H H' wr2 i → H'[i]? = some b → upd Hp H H' wr i = some b := fun i b ht hb => by
  unfold upd
  by_cases h : Tch H H' wr i
  ·rw [if_pos h]; exact hb
  ·rw [if_neg h]
   rcases ht with ht | ht
   ·have hn : i ∉ wr := fun hi => h (.inl hi)
    rw [hHp i ht, ← L.same i (hlt i ht) hn]; exact hb
   ·exact absurd (.inr ht) h
 have hD : ∀ i ∈ wr2, C.D i := fun i hi => by
  have := List.getElem?_eq_getElem (hlt i hi)
  exact hH.dom i _ ((hHp i hi).trans this)
 refine ⟨L.keeps, L.os, L.tape, L.output, L.size, L.len, fun i hi hn => L.same i hi (fun h => hn (hsub i h)), fun k hk => ?_, fun k hk => ?_, L.ltF, hD, L.dom, fun i b ht hb => hR.blk i b (hupd i b ht hb), fun i b k ht hb hl => ?_, fun i j b b' k hi hj hb hb' hl hl' => hR.inj i j b b' k (hupd i b hi hb) (hupd j b' hj hb') hl hl'⟩
 ·rcases L.frame k hk with h | ⟨i, hi, b, hb, hw⟩
  ·exact .inl h
  ·exact .inr ⟨i, hsub i hi, b, hb, hw⟩
 ·rcases L.newF k hk with h | h | ⟨i, hi, b, hb, hw⟩
  ·exact .inl h
  ·exact .inr (.inl h)
  ·exact .inr (.inr ⟨i, hsub i hi, b, hb, hw⟩)
 ·by_cases h : Tch H H' wr i
  ·rcases L.lies i b k h hb hl with h | ⟨j, hj, b0, hb0, hl0⟩
   ·exact .inl h
   ·exact .inr ⟨j, hsub j hj, b0, hb0, hl0⟩
  ·rcases ht with ht | ht
   ·have hn : i ∉ wr := fun hi => h (.inl hi)
    have hb' : Hp i = some b := by rw [hHp i ht, ← L.same i (hlt i ht) hn]; exact hb
    rw [L.keeps.rho i (hD i ht)] at hl
    exact .inr ⟨i, ht, b, hb', hl⟩
   ·exact absurd (.inr ht) h
theorem RD.flat_any {F F' : Nat → Prop} {v : Value} {d : Dat} (h : RD F w v d) (hf : d.flat = true) : RD F' w v d := by
 induction h with
 | bool b => exact .bool b
 | int k n => exact .int k n
 | str s => exact .str s
 | nilp => exact .nilp
 | nilf => exact .nilf
 | nili => exact .nili
 | nilm => exact .nilm
 | sl0 a cap sz fl hn => simp [Dat.flat] at hf
 | sl => simp [Dat.flat] at hf
 | agg vs ds hn h ih =>
  simp only [Dat.flat] at hf
  exact .agg vs ds hn (fun j d v hd hv => ih j d v hd hv (flats_mem hf d (List.mem_of_getElem? hd)))
mutual
theorem safe_rename {f : Nat → Nat} : ∀ (x : AV), x.safe H = true → ∀ v, RV C w v x → (∀ i ∈ x.refs, C.D i → Ren C C' w w' f i) → RV C' w v (x.ren f)
 | .dat d, h, v, hv, _ => by
  simp only [AV.safe] at h
  cases hv with | dat hv => exact .dat (hv.flat_any h)
 | .own id off len, h, v, hv, hr => by
  cases hv with
  | own _ _ _ g cap hD hρ hl =>
   have hR := hr id (by simp [AV.refs]) hD
   rw [← hR.siz]; exact .own _ _ _ g cap hR.dom (hR.rho.trans hρ) hl
  | own0 b _ hD hρ =>
   have hR := hr id (by simp [AV.refs]) hD
   exact .own0 b _ hR.dom (hR.rho.trans hρ)
 | .nil e sz fl, h, v, hv, _ => by cases hv; exact .nil _ e sz fl
 | .agg cs, h, v, hv, hr => by
  simp only [AV.safe] at h
  cases hv with
  | agg vs _ hn hc =>
   have := safeL_rename cs h vs.toList ⟨by simpa using hn, fun j u x hu hx => hc j x u hx (by simpa using hu)⟩ (fun i hi => hr i (by simpa [AV.refs] using hi))
   exact .agg vs _ (by simpa using this.1) (fun j c v hc hv => this.2 j v c (by simpa using hv) hc)
 | .tup cs, h, v, hv, hr => by
  simp only [AV.safe] at h
  cases hv with
  | tup vs _ hn hc =>
   have := safeL_rename cs h vs.toList ⟨by simpa using hn, fun j u x hu hx => hc j x u hx (by simpa using hu)⟩ (fun i hi => hr i (by simpa [AV.refs] using hi))
   exact .tup vs _ (by simpa using this.1) (fun j c v hc hv => this.2 j v c (by simpa using hv) hc)
 | .ifc t x, h, v, hv, hr => by
  simp only [AV.safe] at h
  cases hv with
  | ifc _ v _ hv => exact .ifc t v _ (safe_rename x h v hv (fun i hi => hr i (by simpa [AV.refs] using hi)))
 | .ptr _ _, h, _, _, _ => by simp [AV.safe] at h
 | .eptr _ _ _, h, _, _, _ => by simp [AV.safe] at h
 | .dptr _, h, _, _, _ => by simp [AV.safe] at h
 | .mref _, h, _, _, _ => by simp [AV.safe] at h
 | .fn _ _ _, h, _, _, _ => by simp [AV.safe] at h
 | .top, h, _, _, _ => by simp [AV.safe] at h
theorem safeL_rename {f : Nat → Nat} : ∀ (l : List AV), AV.safeL H l = true → ∀ us, RL C w us l → (∀ i ∈ AV.refsL l, C.D i → Ren C C' w w' f i) → RL C' w us (AV.renL f l)
 | [], _, us, h, _ => ⟨by simpa [AV.renL] using h.1, fun j u x _ hx => by simp [AV.renL] at hx⟩
 | x :: l, hs, us, h, hr => by
  simp only [AV.safeL, Bool.and_eq_true] at hs
  cases us with
  | nil => have := h.1; simp at this
  | cons u us =>
   exact RL.cons (safe_rename x hs.1 u (h.2 0 u x rfl rfl) (fun i hi => hr i (by simp [AV.refsL, hi]))) (safeL_rename l hs.2 us (by simpa using h.drop 1) (fun i hi => hr i (by simp [AV.refsL, hi])))
end
theorem Lies.ren {b : Blk} {f : Nat → Nat} {l : Loc} {k : Nat} : Lies (b.ren f) l k ↔ Lies b l k := by
 cases b <;> cases l <;> simp [Blk.ren, Lies]
def ctxCall (C C1 : Ctx) (w : World) (H H1 : List Blk) (ids : List Nat) : Ctx where
 ρ i := if H.length ≤ i ∧ i < H.length + H1.length then C1.ρ (i - H.length) else C.ρ i
 sz i := if H.length ≤ i ∧ i < H.length + H1.length then C1.sz (i - H.length) else C.sz i
 D i := C.D i ∨ (H.length ≤ i ∧ i < H.length + H1.length)
 Fz k := C.Fz k ∨ (∃ i ∈ ids, ∃ b, H[i]? = some b ∧ Lies b (C.ρ i) k) ∨ (w.heap.size ≤ k ∧ C1.Fz k)
end Go.Ax
namespace Go.Ax
set_option linter.unusedSectionVars false
open Go.RowKit
variable [Gls]
variable {P : Program} {C C' : Ctx} {w w' : World} {a : Act} {env : Env} {H H' : List Blk} {cf : CallF} {av : AV} {o : Oper} {xo : XOp} {Hp : Nat → Option Blk} {wr : List Nat}
theorem RH.empty (hF : ∀ b, C.Fz b → b < w.heap.size) : RH C w (at_ []) := ⟨fun i b h => by simp [at_] at h, fun i b h => by simp [at_] at h, fun i j b b' k h => by simp [at_] at h, hF⟩
theorem flatArr_move {C1 : Ctx} {id id' : Nat} {b : Blk} (hB : RB C1 w id b) (hb : flatArr b = true) (hρ : C.ρ id' = C1.ρ id) (hsz : C.sz id' = C1.sz id) (hF : ∀ k, Lies b (C1.ρ id) k → (C.Fz k ↔ C1.Fz k)) (f : Nat → Nat) : RB C w id' (b.ren f) := by
 cases hB with
 | box => simp [flatArr] at hb
 | mp => simp [flatArr] at hb
 | arr0 e sz fl fz h1 h2 h3 => exact .arr0 e sz fl fz (hρ.trans h1) (hsz.trans h2) h3
 | arr e sz fl fz xs g cap c h1 h2 h3 hbk hc hl hcap hFz hs hfl hcell =>
  simp only [flatArr] at hb
  have hflc : ∀ d ∈ flatten xs, d.flat = true := fun d hd => by
   obtain ⟨x, hx, hdx⟩ := List.mem_flatMap.1 hd
   have := hfl hb x hx
   cases x with
   | agg cs => simp only [Dat.flat] at this; exact flats_mem this d hdx
   | _ => simp only [Dat.cells, List.mem_singleton] at hdx; subst hdx; exact this
  exact .arr e sz fl fz xs g cap c (hρ.trans h1) (hsz.trans h2) h3 hbk hc hl hcap ((hF g (by rw [h1]; rfl)).trans hFz) hs hfl
   (fun k d hk => let ⟨v, a, b, c⟩ := hcell k d hk; ⟨v, a, b.flat_any (hflc d (List.mem_of_getElem? hk)), c⟩)
 | dead => exact .dead
theorem RB.rename {C1 : Ctx} {id id' : Nat} {b : Blk} {f : Nat → Nat} (hB : RB C1 w id b) (hρ : C.ρ id' = C1.ρ id) (hsz : C.sz id' = C1.sz id) (hF : ∀ k, Lies b (C1.ρ id) k → (C.Fz k ↔ C1.Fz k)) (hmono : ∀ k, C1.Fz k → C.Fz k)
  (hr : ∀ i ∈ b.refs, C1.D i → Ren C1 C w w f i) : RB C w id' (b.ren f) := by
 cases hB with
 | box cs bb c t h1 hbk hn hFz h h2 =>
  have hR := RL.rename (C := C1) (C' := C) (w := w) (w' := w) (f := f) hmono (fun _ _ => rfl) cs c.toList ⟨by simpa using hn, fun j u x hu hx => h j u x (by simpa using hu) hx⟩ (fun i hi => hr i (by simpa [Blk.refs] using hi))
  refine .box _ bb c t (hρ.trans h1) hbk (by simpa using hR.1) (fun hf => hFz ((hF bb (by rw [h1]; rfl)).1 hf)) (fun j v av hv hav => hR.2 j v av (by simpa using hv) hav) h2
 | arr0 e sz fl fz h1 h2 h3 => exact .arr0 e sz fl fz (hρ.trans h1) (hsz.trans h2) h3
 | arr e sz fl fz xs g cap c h1 h2 h3 hbk hc hl hcap hFz hs hfl hcell =>
  exact .arr e sz fl fz xs g cap c (hρ.trans h1) (hsz.trans h2) h3 hbk hc hl hcap ((hF g (by rw [h1]; rfl)).trans hFz) hs hfl
   (fun k d hk => let ⟨v, a, b, c⟩ := hcell k d hk; ⟨v, a, b.keeps hmono (fun _ _ => rfl), c⟩)
 | mp l b es ck h1 hbk hFz hst hsz hl hk hs =>
  exact .mp l b es ck (hρ.trans h1) hbk (fun hf => hFz ((hF b (by rw [h1]; rfl)).1 hf)) hst hsz hl (fun x hx => let ⟨n, a, b, d, e, f⟩ := hk x hx; ⟨n, a, b, d, e, f.keeps hmono (fun _ _ => rfl)⟩) hs
 | dead => exact .dead
theorem pureCall_sound (hcf : CFSound P cf) {g : Nat} {args : List AV} {r : AV} {H1 : List Blk} {args' : List AV} (hstrip : AV.stripL H args = some args') (hr : cf g args' [] = some (r, H1))
  {us : List Value} (hus : RL C w us args) (hG : GlR C w) (hH : RH C w Hp) (hp : AV.hasPtrL args = false) (hHp : ∀ i ∈ AV.refsL args, Hp i = H[i]?) (ids : List Nat) (hids : ids = if (AV.safe H1 r && H1.all flatArr) || (AV.ownsL args).isEmpty then [] else AV.ownsL args)
  (hnew : ∀ i, H.length ≤ i → i < H.length + H1.length → ¬ C.D i) :
  Calls P g us.toArray w fun e w' => ∃ v C', e = .returned v ∧ RV C' w' v (r.ren (· + H.length)) ∧ Local C C' w w' H (freeze ids H ++ H1.map (Blk.ren (· + H.length))) Hp ids := by
 let Cc : Ctx := { ρ := C.ρ, sz := C.sz, D := fun _ => False, Fz := fun k => C.Fz k ∨ ∃ i ∈ AV.ownsL args, ∃ b, H[i]? = some b ∧ Lies b (C.ρ i) k }
 have howns := stripL_owns args args' hstrip
 have hHpo : ∀ i ∈ AV.ownsL args, Hp i = H[i]? := fun i hi => hHp i (ownsL_refs args i hi)
 have hstripR : RL Cc w us args' := stripL_sound (C' := Cc) hH (fun _ h => .inl h) args args' hstrip hHp (fun i hi b k hb hk => .inr ⟨i, hi, b, hb, hk⟩) (fun i hi => by rw [ptrsL_nil args hp] at hi; cases hi) us hus
 have hcl : ∀ k, Cc.Fz k → k < w.heap.size := by
  rintro k (h | ⟨i, hi, b, hb, hk⟩)
  ·exact hH.lt k h
  ·exact (hH.blk i b ((hHpo i hi).trans hb)).lies_lt hk
 have hcall := hcf.calls g args' [] r H1 hr Cc w us hstripR (RH.empty hcl) (fun i => ⟨fun h => h.elim, fun h => by simp at h⟩) (hG.mono (fun _ h => .inl h) (fun _ _ => rfl))
 refine hcall.mono fun e w' hpost => ?_
 obtain ⟨v, C1, rfl, hV, L1⟩ := hpost
 simp only [List.length_nil, List.range_zero] at L1
 have hD1 : ∀ i, C1.D i ↔ i < H1.length := fun i => by
  rw [L1.dom i]; simp only [List.length_nil, Nat.zero_le, true_and]
  exact ⟨fun h => h.elim (fun h => h.elim) id, .inr⟩
 have hsame : ∀ k, k < w.heap.size → w'.heap[k]? = w.heap[k]? := fun k hk => (L1.frame k hk).resolve_right (by rintro ⟨i, hi, _⟩; cases hi)
 have hRH1 : RH C1 w' (at_ H1) := by
  have := L1.heap (RH.empty hcl)
  have e : upd (at_ []) [] H1 [] = at_ H1 := by
   funext i
   unfold upd
   split
   ·rfl
   ·rename_i h
    have : ¬ i < H1.length := fun hlt => h (.inr ⟨Nat.zero_le _, hlt⟩)
    simp only [at_, List.getElem?_nil]
    rw [List.getElem?_eq_none (by omega)]
  rwa [e] at this
 have hlies1 : ∀ i b k, H1[i]? = some b → Lies b (C1.ρ i) k → w.heap.size ≤ k := fun i b k hb hk => by
  have hi : i < H1.length := (List.getElem?_eq_some_iff.1 hb).1
  rcases L1.lies i b k (.inr ⟨Nat.zero_le _, hi⟩) hb hk with h | ⟨j, hj, _⟩
  ·exact h
  ·cases hj
 have hidsub : ∀ i ∈ ids, i ∈ AV.ownsL args := fun i hi => by
  rw [hids] at hi
  split at hi
  ·cases hi
  ·exact hi
 refine ⟨v, ctxCall C C1 w H H1 ids, rfl, ?_, ?_⟩
 all_goals
  have hren : ∀ i, C1.D i → Ren C1 (ctxCall C C1 w H H1 ids) w' w' (· + H.length) i := fun i hi => by
   have hi := (hD1 i).1 hi
   refine ⟨.inr ⟨by omega, by omega⟩, ?_, ?_⟩
   ·simp only [ctxCall]
    rw [if_pos ⟨by omega, by omega⟩]; congr 1; omega
   ·simp only [ctxCall]
    rw [if_pos ⟨by omega, by omega⟩]; congr 1; omega
  have hFnew : ∀ k, w.heap.size ≤ k → ((ctxCall C C1 w H H1 ids).Fz k ↔ C1.Fz k) := fun k hk => by
   simp only [ctxCall]
   constructor
   ·rintro (h | ⟨i, hi, b, hb, hl⟩ | h)
    ·have := hH.lt k h; omega
    ·have := (hH.blk i b ((hHpo i (hidsub i hi)).trans hb)).lies_lt hl; omega
    ·exact h.2
   ·exact fun h => .inr (.inr ⟨hk, h⟩)
  have hcases : ((AV.safe H1 r && H1.all flatArr) = true ∧ ids = []) ∨ ∀ k, C1.Fz k → (ctxCall C C1 w H H1 ids).Fz k := by
   by_cases hs : (AV.safe H1 r && H1.all flatArr) = true
   ·exact .inl ⟨hs, by rw [hids, if_pos (by rw [hs]; rfl)]⟩
   ·right
    intro k hk
    by_cases hlt : w.heap.size ≤ k
    ·exact (hFnew k hlt).2 hk
    ·rcases L1.newF k hk with h | h | ⟨i, hi, _⟩
     ·rcases h with h | ⟨i, hi, b, hb, hl⟩
      ·exact .inl h
      ·refine .inr (.inl ⟨i, ?_, b, hb, hl⟩)
       rw [hids, if_neg]
       ·exact hi
       ·intro h
        rw [Bool.or_eq_true] at h
        rcases h with h | h
        ·exact hs h
        ·rw [List.isEmpty_iff] at h; rw [h] at hi; cases hi
     ·exact absurd h hlt
     ·cases hi
 ·rcases hcases with ⟨hs, hi0⟩ | hmono
  ·simp only [Bool.and_eq_true] at hs
   exact safe_rename r hs.1 v hV (fun i hi hD => hren i hD)
  ·exact RV.rename hmono (fun _ _ => rfl) r v hV (fun i hi hD => hren i hD)
 ·refine Local.ext hH ids (H1.map (Blk.ren (· + H.length))) C1.Fz (fun i hi => howns i (hidsub i hi)) (fun i hi => hHpo i (hidsub i hi)) (fun i hi => ?_) (fun i hi => ?_) (fun i => ?_) (fun k => Iff.rfl) L1.os L1.tape L1.output L1.size hsame L1.ltF
   (fun j b hb => ?_) (fun j b k hb hk => ?_) (fun i j b b' k hi hj hli hlj => ?_)
  ·simp only [ctxCall]; exact if_neg (fun h => hnew i h.1 h.2 hi)
  ·simp only [ctxCall]; exact if_neg (fun h => hnew i h.1 h.2 hi)
  ·simp only [ctxCall, List.length_map]
  ·rw [List.getElem?_map, Option.map_eq_some_iff] at hb
   obtain ⟨b1, hb1, rfl⟩ := hb
   have hjl : j < H1.length := (List.getElem?_eq_some_iff.1 hb1).1
   have hR := hren j ((hD1 j).2 hjl)
   have e1 : H.length + j = j + H.length := Nat.add_comm _ _
   have hFl : ∀ k, Lies b1 (C1.ρ j) k → ((ctxCall C C1 w H H1 ids).Fz k ↔ C1.Fz k) := fun k hk => hFnew k (hlies1 j b1 k hb1 hk)
   rw [e1]
   rcases hcases with ⟨hs, hi0⟩ | hmono
   ·simp only [Bool.and_eq_true, List.all_eq_true] at hs
    exact flatArr_move (hRH1.blk j b1 hb1) (hs.2 b1 (List.mem_of_getElem? hb1)) hR.rho hR.siz hFl _
   ·exact RB.rename (hRH1.blk j b1 hb1) hR.rho hR.siz hFl hmono (fun i hi hD => hren i hD)
  ·rw [List.getElem?_map, Option.map_eq_some_iff] at hb
   obtain ⟨b1, hb1, rfl⟩ := hb
   have hjl : j < H1.length := (List.getElem?_eq_some_iff.1 hb1).1
   have hR := hren j ((hD1 j).2 hjl)
   rw [Nat.add_comm, hR.rho] at hk
   exact hlies1 j b1 k hb1 (Lies.ren.1 hk)
  ·rw [List.getElem?_map, Option.map_eq_some_iff] at hi hj
   obtain ⟨b1, hb1, rfl⟩ := hi
   obtain ⟨b2, hb2, rfl⟩ := hj
   have hil : i < H1.length := (List.getElem?_eq_some_iff.1 hb1).1
   have hjl : j < H1.length := (List.getElem?_eq_some_iff.1 hb2).1
   have hR1 := hren i ((hD1 i).2 hil)
   have hR2 := hren j ((hD1 j).2 hjl)
   rw [Nat.add_comm, hR1.rho] at hli
   rw [Nat.add_comm, hR2.rho] at hlj
   exact hRH1.inj i j b1 b2 k hb1 hb2 (Lies.ren.1 hli) (Lies.ren.1 hlj)
end Go.Ax
namespace Go.Ax
set_option linter.unusedSectionVars false
open Go.RowKit
variable [Gls]
variable {P : Program} {C C' : Ctx} {w w' : World} {a : Act} {env : Env} {H H' : List Blk} {cf : CallF} {av : AV} {o : Oper} {xo : XOp} {Hp : Nat → Option Blk} {wr : List Nat}
theorem shown_get (R os : List Nat) (H : List Blk) (j : Nat) : (shown R os H)[j]? = (R[j]?).map fun i => ((freeze os H).getD i .dead).ren fun i => R.idxOf i := by
 simp [shown]
theorem shown_length (R os : List Nat) (H : List Blk) : (shown R os H).length = R.length := by simp [shown]
theorem merge_get_old {R : List Nat} {H H1 : List Blk} {i : Nat} (hi : i < H.length) : (merge R H H1)[i]? = (H[i]?).map fun b => if R.contains i then (H1.getD (R.idxOf i) .dead).ren (backTo R H.length) else b := by
 unfold merge
 rw [List.getElem?_append_left (by simpa using hi)]
 simp [List.getElem?_mapIdx]
theorem merge_get_new {R : List Nat} {H H1 : List Blk} {i : Nat} (hi : H.length ≤ i) : (merge R H H1)[i]? = (H1[R.length + (i - H.length)]?).map (Blk.ren (backTo R H.length)) := by
 unfold merge
 rw [List.getElem?_append_right (by simpa using hi)]
 simp only [List.length_mapIdx, List.getElem?_map, List.getElem?_drop]
theorem merge_length {R : List Nat} {H H1 : List Blk} : (merge R H H1).length = H.length + (H1.length - R.length) := by
 unfold merge; simp
theorem reach_nodup (H : List Blk) : ∀ (f : Nat) (l seen : List Nat), seen.Nodup → (reach H f l seen).Nodup
 | 0, _, _, h => h
 | _ + 1, [], _, h => h
 | f + 1, id :: r, seen, h => by
  simp only [reach]
  split
  ·exact reach_nodup H f r seen h
  ·rename_i hn
   refine reach_nodup H f _ _ (List.nodup_append.2 ⟨h, by simp, fun x hx y hy e => ?_⟩)
   simp only [List.mem_singleton] at hy
   subst hy; subst e
   exact hn (List.contains_iff_mem.2 hx)
theorem RB.ren {f : Nat → Nat} {i j : Nat} {b : Blk} (h : RB C w i b) (hρ : C'.ρ j = C.ρ i) (hs : C'.sz j = C.sz i) (hF : C'.Fz = C.Fz) (hr : ∀ r ∈ b.refs, C.D r → Ren C C' w w f r) : RB C' w j (b.ren f) := by
 have hF' : ∀ k, C.Fz k → C'.Fz k := fun k h => by rw [hF]; exact h
 cases h with
 | box cs bb c t hρ' hb hn hFb h h1 =>
  have hRL : RL C w c.toList cs := ⟨by simpa using hn, fun j u x hu hx => h j u x (by simpa using hu) hx⟩
  have := RL.rename hF' (fun _ _ => rfl) cs c.toList hRL hr
  refine .box _ bb c t (hρ.trans hρ') hb (by simpa using this.1) (by rw [hF]; exact hFb) (fun j v av hv hav => this.2 j v av (by simpa using hv) hav) h1
 | arr0 e sz fl fz hρ' hz hz0 => exact .arr0 e sz fl fz (hρ.trans hρ') (hs.trans hz) hz0
 | arr e sz fl fz xs g cap c hρ' hz hz0 hb hc hl hcap hFb hsz hfl h =>
  exact .arr e sz fl fz xs g cap c (hρ.trans hρ') (hs.trans hz) hz0 hb hc hl hcap (by rw [hF]; exact hFb) hsz hfl (fun k d hk => let ⟨v, a, b, c⟩ := h k d hk; ⟨v, a, b.keeps hF' (fun _ _ => rfl), c⟩)
 | mp l b es ck h1 hbk hFz hst hsz hl hk hs' =>
  exact .mp l b es ck (hρ.trans h1) hbk (by rw [hF]; exact hFz) hst hsz hl (fun x hx => let ⟨n, a, b, d, e, f⟩ := hk x hx; ⟨n, a, b, d, e, f.keeps hF' (fun _ _ => rfl)⟩) hs'
 | dead => exact .dead
def ctxCall3 (C C1 : Ctx) (k len len1 : Nat) : Ctx where
 ρ i := if len ≤ i ∧ i < len + (len1 - k) then C1.ρ (k + (i - len)) else C.ρ i
 sz i := if len ≤ i ∧ i < len + (len1 - k) then C1.sz (k + (i - len)) else C.sz i
 D i := C.D i ∨ (len ≤ i ∧ i < len + (len1 - k))
 Fz := C1.Fz
def ctxShown (C : Ctx) (R : List Nat) (F : Nat → Prop) : Ctx where
 ρ j := match R[j]? with
  | some i => C.ρ i
  | none => .none
 sz j := match R[j]? with
  | some i => C.sz i
  | none => 0
 D j := j < R.length
 Fz := F
theorem Lies.freezeIf {b : Blk} {l : Loc} {k : Nat} {c : Bool} : Lies (if c then Ax.freeze1 b else b) l k ↔ Lies b l k := by
 cases c
 ·simp
 ·simpa using Lies.freeze1
theorem Writes.freezeIf {b : Blk} {l : Loc} {k : Nat} {c : Bool} (h : Writes (if c then freeze1 b else b) l k) : Writes b l k := by
 cases c
 ·simpa using h
 ·cases b <;> cases l <;> simp_all [freeze1, Writes]
theorem Writes.ren {b : Blk} {f : Nat → Nat} {l : Loc} {k : Nat} : Writes (b.ren f) l k ↔ Writes b l k := by
 cases b <;> cases l <;> simp [Blk.ren, Writes]
mutual
theorem strip_refs : ∀ (x x' : AV), x.strip H = some x' → ∀ i ∈ x'.refs, i ∈ x.refs
 | .own id off len, x', h, i, hi => by
  simp only [AV.strip] at h
  split at h <;> first | (cases h; done) | skip
  split at h <;> first | (cases h; done) | skip
  injection h with h; subst h
  simp [AV.refs] at hi
 | .agg cs, x', h, i, hi => by
  simp only [AV.strip, Option.map_eq_some_iff] at h
  obtain ⟨cs', hc, rfl⟩ := h
  simp only [AV.refs]
  exact strip_refsL cs cs' hc i (mkAggV_refs i hi)
 | .ifc t x, x', h, i, hi => by
  simp only [AV.strip, Option.map_eq_some_iff] at h
  obtain ⟨y, hy, rfl⟩ := h
  exact strip_refs x y hy i (by simpa [AV.refs] using hi)
 | .fn g a c, x', h, i, hi => by
  simp only [AV.strip] at h
  split at h <;> first | (cases h; done) | skip
  rename_i a' ha
  simp only [Option.map_eq_some_iff] at h
  obtain ⟨c', hc, rfl⟩ := h
  simp only [AV.refs, List.mem_append] at hi ⊢
  exact hi.imp (strip_refsL a a' ha i) (strip_refsL c c' hc i)
 | .tup _, x', h, i, hi => by simp [AV.strip] at h
 | .top, x', h, i, hi => by simp [AV.strip] at h
 | .dat _, x', h, i, hi => by simp only [AV.strip, Option.some.injEq] at h; subst h; exact hi
 | .ptr _ _, x', h, i, hi => by simp only [AV.strip, Option.some.injEq] at h; subst h; exact hi
 | .eptr _ _ _, x', h, i, hi => by simp only [AV.strip, Option.some.injEq] at h; subst h; exact hi
 | .dptr _, x', h, i, hi => by simp only [AV.strip, Option.some.injEq] at h; subst h; exact hi
 | .mref _, x', h, i, hi => by simp only [AV.strip, Option.some.injEq] at h; subst h; exact hi
 | .nil _ _ _, x', h, i, hi => by simp only [AV.strip, Option.some.injEq] at h; subst h; simp [AV.refs] at hi
theorem strip_refsL : ∀ (l l' : List AV), AV.stripL H l = some l' → ∀ i ∈ AV.refsL l', i ∈ AV.refsL l
 | [], l', h, i, hi => by simp only [AV.stripL, Option.some.injEq] at h; subst h; exact hi
 | x :: l, l', h, i, hi => by
  simp only [AV.stripL] at h
  split at h <;> first | (cases h; done) | skip
  rename_i d hd
  split at h <;> first | (cases h; done) | skip
  rename_i ds hds
  injection h with h; subst h
  simp only [AV.refsL, List.mem_append] at hi ⊢
  exact hi.imp (strip_refs x d hd i) (strip_refsL l ds hds i)
end
theorem ptrCall_sound (hcf : CFSound P cf) {g : Nat} {args : List AV} {r : AV} {H1 : List Blk} {args' : List AV} {R : List Nat} (hnd : R.Nodup) (hstrip : AV.stripL H args = some args')
  (hr : cf g (AV.renL (fun i => R.idxOf i) args') (shown R (AV.ownsL args) H) = some (r, H1))
  {us : List Value} (hus : RL C w us args) (hG : GlR C w) (hH : RH C w Hp) (hHp : ∀ i ∈ R, Hp i = H[i]?) (hclosed : closedUnder H R = true) (hrefs : ∀ i ∈ AV.refsL args, i ∈ R) (hRlt : ∀ i ∈ R, i < H.length)
  (hnew : ∀ i, H.length ≤ i → i < (merge R H H1).length → ¬ C.D i) :
  Calls P g us.toArray w fun e w' => ∃ v C', e = .returned v ∧ RV C' w' v (r.ren (backTo R H.length)) ∧ Local C C' w w' H (merge R H H1) Hp R := by
 let os := AV.ownsL args
 let F : Nat → Prop := fun k => C.Fz k ∨ ∃ i ∈ os, ∃ b, H[i]? = some b ∧ Lies b (C.ρ i) k
 let Co : Ctx := { ρ := C.ρ, sz := C.sz, D := fun i => i < H.length, Fz := F }
 let Cc : Ctx := ctxShown C R F
 let f : Nat → Nat := fun i => R.idxOf i
 have howns := stripL_owns args args' hstrip
 have hosR : ∀ i ∈ os, i ∈ R := fun i hi => hrefs i (ownsL_refs args i hi)
 have hHpo : ∀ i ∈ os, Hp i = H[i]? := fun i hi => hHp i (hosR i hi)
 have hDR : ∀ i ∈ R, C.D i := fun i hi => hH.dom i _ ((hHp i hi).trans (List.getElem?_eq_getElem (hRlt i hi)))
 have hcF : ∀ k, C.Fz k → F k := fun _ h => .inl h
 have hidx : ∀ i ∈ R, R[f i]? = some i := fun i hi => by
  have hx := List.idxOf_lt_length_of_mem hi
  rw [List.getElem?_eq_getElem hx, List.getElem_idxOf]
 have hidx2 : ∀ (j i : Nat), R[j]? = some i → f i = j := fun j i h => by
  have h2 := hidx i (List.mem_of_getElem? h)
  obtain ⟨l1, e1⟩ := List.getElem?_eq_some_iff.1 h
  obtain ⟨l2, e2⟩ := List.getElem?_eq_some_iff.1 h2
  exact (List.getElem_inj hnd).1 (e2.trans e1.symm)
 have hrenO : ∀ i ∈ R, Ren Co Cc w w f i := fun i hi => by
  have h2 := hidx i hi
  refine ⟨(List.getElem?_eq_some_iff.1 h2).1, ?_, ?_⟩
  ·show (match R[f i]? with | some i => C.ρ i | none => .none) = C.ρ i
   rw [h2]
  ·show (match R[f i]? with | some i => C.sz i | none => 0) = C.sz i
   rw [h2]
 have hstripO : RL Co w us args' := stripL_sound (C' := Co) hH hcF args args' hstrip (fun i hi => hHp i (hrefs i hi)) (fun i hi b k hb hk => .inr ⟨i, hi, b, hb, hk⟩)
  (fun i hi hD => ⟨hRlt i (hrefs i (by
   have : ∀ (l : List AV), ∀ i ∈ AV.ptrsL l, i ∈ AV.refsL l := ptrsL_refs
   exact this args i hi)), rfl, rfl⟩) us hus
 have hargsR : ∀ i ∈ AV.refsL args', i ∈ R := fun i hi => hrefs i (strip_refsL args args' hstrip i hi)
 have hstripR : RL Cc w us (AV.renL f args') := RL.rename (C := Co) (C' := Cc) (fun _ h => h) (fun _ _ => rfl) args' us hstripO (fun i hi _ => hrenO i (hargsR i hi))
 have hcl : ∀ k, F k → k < w.heap.size := by
  rintro k (h | ⟨i, hi, b, hb, hk⟩)
  ·exact hH.lt k h
  ·exact (hH.blk i b ((hHpo i hi).trans hb)).lies_lt hk
 have hmoveAV : ∀ (x : AV) (v : Value), RV C w v x → (∀ i ∈ x.refs, i ∈ R) → RV Co w v x := fun x v hv hx => hv.move hcF (fun _ _ => rfl) (fun i hi _ => ⟨hRlt i (hx i hi), rfl, rfl⟩)
 have hblkO : ∀ i ∈ R, ∀ b0, H[i]? = some b0 → (∀ j ∈ b0.refs, j ∈ R) ∧ RB Co w i (if os.contains i then freeze1 b0 else b0) := fun i hi b0 h0 => by
  have hB := hH.blk i b0 ((hHp i hi).trans h0)
  have hbr : ∀ j ∈ b0.refs, j ∈ R := fun j hj => by
   have := List.all_eq_true.1 hclosed i hi
   rw [List.all_eq_true] at this
   have := this j (by simp only [blkRefs, h0]; exact hj)
   exact List.contains_iff_mem.1 this
  refine ⟨hbr, ?_⟩
  have hFnot : ∀ k, Lies b0 (C.ρ i) k → i ∉ os → (F k ↔ C.Fz k) := fun k hk hn => by
   constructor
   ·rintro (h | ⟨j, hj, b2, hb2, hl2⟩)
    ·exact h
    ·have := hH.inj i j b0 b2 k ((hHp i hi).trans h0) ((hHpo j hj).trans hb2) hk hl2
     exact absurd (this ▸ hj) hn
   ·exact hcF k
  cases hB with
  | box cs bb c t hρ hbk hn hF h h1 =>
   have hno : i ∉ os := fun ho => by
    obtain ⟨e, sz, fl, fz, xs, h2⟩ := howns i ho
    rw [h0] at h2; cases h2
   have : (if os.contains i = true then freeze1 (Blk.box cs) else Blk.box cs) = .box cs := by split <;> rfl
   rw [this]
   refine .box cs bb c t hρ hbk hn (fun hf => hF ((hFnot bb (by rw [hρ]; rfl) hno).1 hf)) (fun j v av hv hav => hmoveAV av v (h j v av hv hav) (fun m hm => hbr m ?_)) h1
   simp only [Blk.refs]
   exact refsL_mem (List.mem_of_getElem? hav) hm
  | arr0 e sz fl fz hρ hz hz0 =>
   split
   ·exact .arr0 e sz fl true hρ hz hz0
   ·exact .arr0 e sz fl fz hρ hz hz0
  | arr e sz fl fz xs g' cap c hρ hz hz0 hbk hc hl hcap hF hs hfl hcell =>
   have hcell' : ∀ (k : Nat) (d : Dat), (flatten xs)[k]? = some d → ∃ v : Value, c[k]? = some v ∧ RD F w v d ∧ v.oneCell' = true := fun k d hk => let ⟨v, a, b, c⟩ := hcell k d hk; ⟨v, a, b.keeps hcF (fun _ _ => rfl), c⟩
   by_cases ho : i ∈ os
   ·rw [if_pos (List.contains_iff_mem.2 ho)]
    exact .arr e sz fl true xs g' cap c hρ hz hz0 hbk hc hl hcap ⟨fun _ => rfl, fun _ => .inr ⟨i, ho, _, h0, by rw [hρ]; rfl⟩⟩ hs hfl hcell'
   ·rw [if_neg (fun h => ho (List.contains_iff_mem.1 h))]
    exact .arr e sz fl fz xs g' cap c hρ hz hz0 hbk hc hl hcap ((hFnot g' (by rw [hρ]; rfl) ho).trans hF) hs hfl hcell'
  | mp l bb es ck hρ hbk hF hst hsz hl hk hs =>
   have hno : i ∉ os := fun ho => by
    obtain ⟨e, sz, fl, fz, xs, h2⟩ := howns i ho
    rw [h0] at h2; cases h2
   have : (if os.contains i = true then freeze1 (Blk.mp l) else Blk.mp l) = .mp l := by split <;> rfl
   rw [this]
   exact .mp l bb es ck hρ hbk (fun hf => hF ((hFnot bb (by rw [hρ]; rfl) hno).1 hf)) hst hsz hl (fun x hx => let ⟨n, a, b, d, e, f⟩ := hk x hx; ⟨n, a, b, d, e, f.keeps hcF (fun _ _ => rfl)⟩) hs
  | dead => split <;> exact .dead
 let Hc := shown R os H
 have hHc : ∀ j b, at_ Hc j = some b → ∃ i b0, R[j]? = some i ∧ i ∈ R ∧ H[i]? = some b0 ∧ b = (if os.contains i then freeze1 b0 else b0).ren f := fun j b hb => by
  simp only [at_, Hc, shown_get, Option.map_eq_some_iff] at hb
  obtain ⟨i, hi, rfl⟩ := hb
  have hiR := List.mem_of_getElem? hi
  have hlt := hRlt i hiR
  refine ⟨i, H[i], hi, hiR, List.getElem?_eq_getElem hlt, ?_⟩
  rw [List.getD_eq_getElem?_getD, freeze_get, List.getElem?_eq_getElem hlt]; rfl
 have hρc : ∀ j i, R[j]? = some i → Cc.ρ j = C.ρ i := fun j i h => by
  show (match R[j]? with | some i => C.ρ i | none => .none) = C.ρ i
  rw [h]
 have hszc : ∀ j i, R[j]? = some i → Cc.sz j = C.sz i := fun j i h => by
  show (match R[j]? with | some i => C.sz i | none => 0) = C.sz i
  rw [h]
 have hfr : ∀ {b0 : Blk} {c : Bool}, (if c then freeze1 b0 else b0).refs = b0.refs := fun {b0 c} => by
  cases c
  ·rfl
  ·cases b0 <;> rfl
 have hRHc : RH Cc w (at_ Hc) := by
  refine ⟨fun j b hb => ?_, fun j b hb => ?_, fun j j' b b' k hj hj' hlj hlj' => ?_, hcl⟩
  ·obtain ⟨i, b0, hi, _⟩ := hHc j b hb
   exact (List.getElem?_eq_some_iff.1 hi).1
  ·obtain ⟨i, b0, hi, hiR, h0, rfl⟩ := hHc j b hb
   obtain ⟨hbr, hB⟩ := hblkO i hiR b0 h0
   exact hB.ren (C' := Cc) (hρc j i hi) (hszc j i hi) rfl (fun m hm _ => hrenO m (hbr m (by rwa [hfr] at hm)))
  ·obtain ⟨i, b0, hi, hiR, h0, rfl⟩ := hHc j b hj
   obtain ⟨i', b1, hi', hiR', h1, rfl⟩ := hHc j' b' hj'
   rw [hρc j i hi] at hlj
   rw [hρc j' i' hi'] at hlj'
   have := hH.inj i i' b0 b1 k ((hHp i hiR).trans h0) ((hHp i' hiR').trans h1) (Lies.freezeIf.1 (Lies.ren.1 hlj)) (Lies.freezeIf.1 (Lies.ren.1 hlj'))
   subst this
   exact (hidx2 j i hi).symm.trans (hidx2 j' i hi')
 have hlenc : Hc.length = R.length := shown_length R os H
 have hcall := hcf.calls g _ Hc r H1 hr Cc w us hstripR hRHc (fun i => by rw [hlenc]; exact Iff.rfl) (hG.mono hcF (fun _ _ => rfl))
 refine hcall.mono fun e w' hpost => ?_
 obtain ⟨v, C1, rfl, hV, L1⟩ := hpost
 rw [hlenc] at L1
 have hlen1 : R.length ≤ H1.length := by have := L1.len; omega
 have hD1 : ∀ i, C1.D i ↔ i < H1.length := fun i => by
  rw [L1.dom i, hlenc]
  show i < R.length ∨ _ ↔ _
  omega
 have hRH1 : RH C1 w' (at_ H1) := by
  have := L1.heap hRHc
  have e : upd (at_ Hc) Hc H1 (List.range R.length) = at_ H1 := by
   funext i
   unfold upd
   split
   ·rfl
   ·rename_i h
    have h1 : ¬ i < R.length := fun hlt => h (.inl (List.mem_range.2 hlt))
    have h2 : ¬ i < H1.length := fun hlt => h (.inr ⟨by omega, hlt⟩)
    simp only [at_]
    rw [List.getElem?_eq_none (by omega), List.getElem?_eq_none (by omega)]
  rwa [e] at this
 let C' := ctxCall3 C C1 R.length H.length H1.length
 let bk := backTo R H.length
 have hren1 : ∀ j, C1.D j → Ren C1 C' w' w' bk j := fun j hD => by
  have hlt := (hD1 j).1 hD
  by_cases hj : j < R.length
  ·have hi : R[j]? = some R[j] := List.getElem?_eq_getElem hj
   have hb : bk j = R[j] := by show (if j < R.length then R.getD j 0 else _) = _; rw [if_pos hj]; simp [List.getD, hj]
   have hiR := List.getElem_mem (l := R) hj
   have hlt2 := hRlt _ hiR
   refine ⟨?_, ?_, ?_⟩ <;> rw [hb]
   ·exact .inl (hDR _ hiR)
   ·show (if H.length ≤ R[j] ∧ _ then _ else C.ρ R[j]) = _
    rw [if_neg (by omega), ← hρc j _ hi]
    exact (L1.keeps.rho j hj).symm
   ·show (if H.length ≤ R[j] ∧ _ then _ else C.sz R[j]) = _
    rw [if_neg (by omega), ← hszc j _ hi]
    exact (L1.keeps.siz j hj).symm
  ·have hb : bk j = H.length + (j - R.length) := if_neg hj
   refine ⟨?_, ?_, ?_⟩ <;> rw [hb]
   ·exact .inr ⟨by omega, by omega⟩
   ·show (if _ ∧ _ then C1.ρ (R.length + (H.length + (j - R.length) - H.length)) else _) = _
    rw [if_pos ⟨by omega, by omega⟩]; congr 1; omega
   ·show (if _ ∧ _ then C1.sz (R.length + (H.length + (j - R.length) - H.length)) else _) = _
    rw [if_pos ⟨by omega, by omega⟩]; congr 1; omega
 have hlenM : (merge R H H1).length = H.length + (H1.length - R.length) := merge_length
 have hwr : ∀ k, (∃ i ∈ List.range R.length, ∃ b, at_ Hc i = some b ∧ Writes b (Cc.ρ i) k) → ∃ i ∈ R, ∃ b, Hp i = some b ∧ Writes b (C.ρ i) k := by
  rintro k ⟨j, _, b, hb, hw⟩
  obtain ⟨i, b0, hi, hiR, h0, rfl⟩ := hHc j b hb
  rw [hρc j i hi] at hw
  exact ⟨i, hiR, b0, (hHp i hiR).trans h0, (Writes.ren.1 hw).freezeIf⟩
 have hli : ∀ k, (∃ i ∈ List.range R.length, ∃ b, at_ Hc i = some b ∧ Lies b (Cc.ρ i) k) → ∃ i ∈ R, ∃ b, Hp i = some b ∧ Lies b (C.ρ i) k := by
  rintro k ⟨j, _, b, hb, hw⟩
  obtain ⟨i, b0, hi, hiR, h0, rfl⟩ := hHc j b hb
  rw [hρc j i hi] at hw
  exact ⟨i, hiR, b0, (hHp i hiR).trans h0, Lies.freezeIf.1 (Lies.ren.1 hw)⟩
 have getT : ∀ i b, Tch H (merge R H H1) R i → (merge R H H1)[i]? = some b → ∃ j b1, j < H1.length ∧ H1[j]? = some b1 ∧ b = b1.ren bk ∧ bk j = i := fun i b ht hb => by
  rcases ht with hi | ⟨h1, h2⟩
  ·have hlt := hRlt i hi
   rw [merge_get_old hlt, List.getElem?_eq_getElem hlt] at hb
   simp only [Option.map_some, if_pos (List.contains_iff_mem.2 hi), Option.some.injEq] at hb
   have hx := List.idxOf_lt_length_of_mem hi
   have hx1 : R.idxOf i < H1.length := by omega
   refine ⟨R.idxOf i, H1[R.idxOf i], hx1, List.getElem?_eq_getElem hx1, ?_, ?_⟩
   ·rw [← hb]; simp [List.getD, hx1, bk]
   ·show (if R.idxOf i < R.length then R.getD (R.idxOf i) 0 else _) = i
    rw [if_pos hx]
    have := hidx i hi
    simp only [f] at this
    simp [List.getD, this]
  ·rw [hlenM] at h2
   rw [merge_get_new h1] at hb
   simp only [Option.map_eq_some_iff] at hb
   obtain ⟨b1, hb1, rfl⟩ := hb
   refine ⟨_, b1, (List.getElem?_eq_some_iff.1 hb1).1, hb1, rfl, ?_⟩
   show (if _ < R.length then _ else H.length + (R.length + (i - H.length) - R.length)) = i
   rw [if_neg (by omega)]; omega
 have hbk : ∀ j j', j < H1.length → j' < H1.length → bk j = bk j' → j = j' := fun j j' hj hj' he => by
  by_cases h1 : j < R.length <;> by_cases h2 : j' < R.length
  ·have e1 : bk j = R[j] := by show (if j < R.length then R.getD j 0 else _) = _; rw [if_pos h1]; simp [List.getD, h1]
   have e2 : bk j' = R[j'] := by show (if j' < R.length then R.getD j' 0 else _) = _; rw [if_pos h2]; simp [List.getD, h2]
   exact (List.getElem_inj hnd).1 (e1.symm.trans (he.trans e2))
  ·have e1 : bk j = R[j] := by show (if j < R.length then R.getD j 0 else _) = _; rw [if_pos h1]; simp [List.getD, h1]
   have e2 : bk j' = H.length + (j' - R.length) := if_neg h2
   have := hRlt _ (List.getElem_mem (l := R) h1)
   omega
  ·have e1 : bk j = H.length + (j - R.length) := if_neg h1
   have e2 : bk j' = R[j'] := by show (if j' < R.length then R.getD j' 0 else _) = _; rw [if_pos h2]; simp [List.getD, h2]
   have := hRlt _ (List.getElem_mem (l := R) h2)
   omega
  ·have e1 : bk j = H.length + (j - R.length) := if_neg h1
   have e2 : bk j' = H.length + (j' - R.length) := if_neg h2
   omega
 have hN : ∀ i, H.length ≤ i → i < H.length + (H1.length - R.length) → ¬ C.D i := fun i h1 h2 => hnew i h1 (by rw [hlenM]; exact h2)
 have hT1 : ∀ j, j < H1.length → Tch Hc H1 (List.range R.length) j := fun j hj => by
  by_cases h : j < R.length
  ·exact .inl (List.mem_range.2 h)
  ·exact .inr ⟨by rw [hlenc]; omega, hj⟩
 refine ⟨v, C', rfl, RV.rename (C := C1) (C' := C') (fun _ h => h) (fun _ _ => rfl) r v hV (fun i _ hD => hren1 i hD), ?_⟩
 refine ⟨⟨fun b hb => L1.keeps.fz b (hcF b hb), fun b hb => L1.keeps.blk b (hcF b hb), fun i hi => .inl hi, fun i hi => if_neg (fun h => hN i h.1 h.2 hi), fun i hi => if_neg (fun h => hN i h.1 h.2 hi)⟩,
  L1.os, L1.tape, L1.output, L1.size, by omega, fun i hi hn => ?_, fun k hk => ?_, fun k hk => ?_, L1.ltF, hDR, fun i => by rw [hlenM]; exact Iff.rfl, fun i b ht hb => ?_, fun i b k ht hb hl => ?_, fun i j b b' k hi hj hb hb' hl hl' => ?_⟩
 ·rw [merge_get_old hi, List.getElem?_eq_getElem hi]
  simp only [Option.map_some, if_neg (fun h => hn (List.contains_iff_mem.1 h))]
 ·rcases L1.frame k hk with h | h
  ·exact .inl h
  ·exact .inr (hwr k h)
 ·rcases L1.newF k hk with h | h | h
  ·rcases h with h | ⟨i, hi, b, hb, hl⟩
   ·exact .inl h
   ·exact .inr (.inr ⟨i, hosR i hi, b, (hHpo i hi).trans hb, hl⟩)
  ·exact .inr (.inl h)
  ·exact .inr (.inr (hli k h))
 ·obtain ⟨j, b1, hj, hb1, rfl, rfl⟩ := getT i b ht hb
  have hR := hren1 j ((hD1 j).2 hj)
  exact (hRH1.blk j b1 hb1).ren (C' := C') hR.rho hR.siz rfl (fun m _ hD => hren1 m hD)
 ·obtain ⟨j, b1, hj, hb1, rfl, rfl⟩ := getT i b ht hb
  rw [(hren1 j ((hD1 j).2 hj)).rho] at hl
  rcases L1.lies j b1 k (hT1 j hj) hb1 (Lies.ren.1 hl) with h | h
  ·exact .inl h
  ·exact .inr (hli k h)
 ·obtain ⟨j1, b1, hj1, hb1, rfl, rfl⟩ := getT i b hi hb
  obtain ⟨j2, b2, hj2, hb2, rfl, rfl⟩ := getT j b' hj hb'
  rw [(hren1 j1 ((hD1 j1).2 hj1)).rho] at hl
  rw [(hren1 j2 ((hD1 j2).2 hj2)).rho] at hl'
  rw [hRH1.inj j1 j2 b1 b2 k hb1 hb2 (Lies.ren.1 hl) (Lies.ren.1 hl')]
end Go.Ax
