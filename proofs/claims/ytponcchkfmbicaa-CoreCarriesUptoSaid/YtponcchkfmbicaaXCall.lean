/-
  Ax, text 13: calls.
-/
import Derived.Test.YtponcchkfmbicaaXMem4
namespace Go.Ax
set_option linter.unusedSectionVars false
open Go.RowKit

variable [Gls]
variable {P : Program} {C C' : Ctx} {w w' : World} {a : Act} {env : Env} {H H' : List Blk} {cf : CallF} {av : AV} {o : Oper} {xo : XOp} {Hp : Nat → Option Blk} {wr : List Nat}

/-- Other numbers, more blocks frozen. -/
structure Ren (C C' : Ctx) (w w' : World) (f : Nat → Nat) (i : Nat) : Prop where
  dom : C'.D (f i)
  rho : C'.ρ (f i) = C.ρ i
  siz : C'.sz (f i) = C.sz i

mutual
theorem RV.rename {f : Nat → Nat} (hF : ∀ b, C.Fz b → C'.Fz b) (hw : ∀ b, C.Fz b → w'.heap[b]? = w.heap[b]?) : ∀ (x : AV) (v : Value), RV C w v x → (∀ i ∈ x.refs, C.D i → Ren C C' w w' f i) → RV C' w' v (x.ren f)
  | .dat d, v, h, _ => by cases h with | dat h => exact .dat (h.keeps hF hw)
  | .ptr id off, v, h, hr => by
    cases h with
    | ptr _ _ b hD h => exact .ptr _ _ _ (hr id (by simp [AV.refs]) hD).dom ((hr id (by simp [AV.refs]) hD).rho.trans h)
  | .mref id, v, h, hr => by
    cases h with
    | mref _ b hD h => exact .mref _ _ (hr id (by simp [AV.refs]) hD).dom ((hr id (by simp [AV.refs]) hD).rho.trans h)
  | .eptr id i off, v, h, hr => by
    cases h with
    | eptr _ _ _ g cap hD h =>
      have hR := hr id (by simp [AV.refs]) hD
      rw [← hR.siz]; exact .eptr _ _ _ g cap hR.dom (hR.rho.trans h)
  | .dptr cs, v, h, _ => by
    cases h with
    | dptr ad _ vs hF' hv hd =>
      refine .dptr ad cs vs (hF _ hF') (fun k d hk => ⟨?_, (hv k d hk).2⟩) (fun k d hk => (hd k d hk).keeps hF hw)
      rw [World.cell?_of_block (w := w) (by rw [add_block]; exact hw _ hF')]
      exact (hv k d hk).1
  | .own id off len, v, h, hr => by
    cases h with
    | own _ _ _ g cap hD h hl =>
      have hR := hr id (by simp [AV.refs]) hD
      rw [← hR.siz]; exact .own _ _ _ g cap hR.dom (hR.rho.trans h) hl
    | own0 b _ hD h =>
      have hR := hr id (by simp [AV.refs]) hD
      exact .own0 b _ hR.dom (hR.rho.trans h)
  | .nil e sz fl, v, h, _ => by cases h; exact .nil _ e sz fl
  | .agg cs, v, h, hr => by
    cases h with
    | agg vs _ hn h =>
      have := RL.rename hF hw cs vs.toList ⟨by simpa using hn, fun j u x hu hx => h j x u hx (by simpa using hu)⟩ (fun i hi => hr i (by simpa [AV.refs] using hi))
      exact .agg vs _ (by simpa using this.1) (fun j c v hc hv => this.2 j v c (by simpa using hv) hc)
  | .tup cs, v, h, hr => by
    cases h with
    | tup vs _ hn h =>
      have := RL.rename hF hw cs vs.toList ⟨by simpa using hn, fun j u x hu hx => h j x u hx (by simpa using hu)⟩ (fun i hi => hr i (by simpa [AV.refs] using hi))
      exact .tup vs _ (by simpa using this.1) (fun j c v hc hv => this.2 j v c (by simpa using hv) hc)
  | .ifc t x, v, h, hr => by
    cases h with
    | ifc _ v _ h => exact .ifc t v _ (RV.rename hF hw x v h (fun i hi => hr i (by simpa [AV.refs] using hi)))
  | .fn g xs ys, v, h, hr => by
    cases h with
    | fn _ as cs _ _ hn hm h h' =>
      have h1 := RL.rename hF hw xs as.toList ⟨by simpa using hn, fun j u x hu hx => h j x u hx (by simpa using hu)⟩ (fun i hi => hr i (by simp [AV.refs, hi]))
      have h2 := RL.rename hF hw ys cs.toList ⟨by simpa using hm, fun j u x hu hx => h' j x u hx (by simpa using hu)⟩ (fun i hi => hr i (by simp [AV.refs, hi]))
      exact .fn g as cs _ _ (by simpa using h1.1) (by simpa using h2.1) (fun j c v hc hv => h1.2 j v c (by simpa using hv) hc) (fun j c v hc hv => h2.2 j v c (by simpa using hv) hc)
  | .top, v, _, _ => .top v
theorem RL.rename {f : Nat → Nat} (hF : ∀ b, C.Fz b → C'.Fz b) (hw : ∀ b, C.Fz b → w'.heap[b]? = w.heap[b]?) : ∀ (l : List AV) (us : List Value), RL C w us l → (∀ i ∈ AV.refsL l, C.D i → Ren C C' w w' f i) → RL C' w' us (AV.renL f l)
  | [], us, h, _ => ⟨by simpa [AV.renL] using h.1, fun j u x _ hx => by simp [AV.renL] at hx⟩
  | x :: l, us, h, hr => by
    cases us with
    | nil => have := h.1; simp at this
    | cons u us =>
      have h1 := RV.rename hF hw x u (h.2 0 u x rfl rfl) (fun i hi => hr i (by simp [AV.refsL, hi]))
      have h2 := RL.rename hF hw l us (by simpa using h.drop 1) (fun i hi => hr i (by simp [AV.refsL, hi]))
      exact RL.cons h1 h2
end

mutual
theorem AV.ren_id : ∀ x : AV, x.ren (fun i => i) = x
  | .agg cs => by simp only [AV.ren, AV.renL_id cs]
  | .tup cs => by simp only [AV.ren, AV.renL_id cs]
  | .fn g xs ys => by simp only [AV.ren, AV.renL_id xs, AV.renL_id ys]
  | .ifc t x => by simp only [AV.ren, AV.ren_id x]
  | .dat _ | .ptr _ _ | .eptr _ _ _ | .dptr _ | .mref _ | .own _ _ _ | .nil _ _ _ | .top => rfl
theorem AV.renL_id : ∀ l : List AV, AV.renL (fun i => i) l = l
  | [] => rfl
  | x :: l => by simp only [AV.renL, AV.ren_id x, AV.renL_id l]
end

/-- More is known. -/
theorem RV.move {x : AV} {v : Value} (h : RV C w v x) (hF : ∀ b, C.Fz b → C'.Fz b) (hw : ∀ b, C.Fz b → w'.heap[b]? = w.heap[b]?) (hr : ∀ i ∈ x.refs, C.D i → C'.D i ∧ C'.ρ i = C.ρ i ∧ C'.sz i = C.sz i) : RV C' w' v x := by
  have := RV.rename (f := fun i => i) hF hw x v h (fun i hi hD => ⟨(hr i hi hD).1, (hr i hi hD).2.1, (hr i hi hD).2.2⟩)
  rwa [AV.ren_id] at this
theorem RL.move {l : List AV} {us : List Value} (h : RL C w us l) (hF : ∀ b, C.Fz b → C'.Fz b) (hw : ∀ b, C.Fz b → w'.heap[b]? = w.heap[b]?) (hr : ∀ i ∈ AV.refsL l, C.D i → C'.D i ∧ C'.ρ i = C.ρ i ∧ C'.sz i = C.sz i) : RL C' w' us l := by
  have := RL.rename (f := fun i => i) hF hw l us h (fun i hi hD => ⟨(hr i hi hD).1, (hr i hi hD).2.1, (hr i hi hD).2.2⟩)
  rwa [AV.renL_id] at this

mutual
/-- What is pointed to. -/
def AV.ptrs : AV → List Nat
  | .ptr id _ | .eptr id _ _ | .mref id => [id]
  | .agg cs => AV.ptrsL cs
  | .tup cs => AV.ptrsL cs
  | .ifc _ v => v.ptrs
  | .fn _ f c => AV.ptrsL f ++ AV.ptrsL c
  | _ => []
def AV.ptrsL : List AV → List Nat
  | [] => []
  | v :: r => v.ptrs ++ AV.ptrsL r
end

mutual
theorem ptrs_nil : ∀ x : AV, x.hasPtr = false → x.ptrs = []
  | .agg cs, h => by simp only [AV.ptrs]; exact ptrsL_nil cs (by simpa [AV.hasPtr] using h)
  | .tup cs, h => by simp only [AV.ptrs]; exact ptrsL_nil cs (by simpa [AV.hasPtr] using h)
  | .ifc _ x, h => by simp only [AV.ptrs]; exact ptrs_nil x (by simpa [AV.hasPtr] using h)
  | .fn _ a c, h => by
    simp only [AV.hasPtr, Bool.or_eq_false_iff] at h
    simp only [AV.ptrs, ptrsL_nil a h.1, ptrsL_nil c h.2, List.append_nil]
  | .ptr _ _, h => by simp [AV.hasPtr] at h
  | .eptr _ _ _, h => by simp [AV.hasPtr] at h
  | .mref _, h => by simp [AV.hasPtr] at h
  | .dat _, _ | .dptr _, _ | .own _ _ _, _ | .nil _ _ _, _ | .top, _ => rfl
theorem ptrsL_nil : ∀ l : List AV, AV.hasPtrL l = false → AV.ptrsL l = []
  | [], _ => rfl
  | x :: l, h => by
    simp only [AV.hasPtrL, Bool.or_eq_false_iff] at h
    simp only [AV.ptrsL, ptrs_nil x h.1, ptrsL_nil l h.2, List.append_nil]
end

mutual
theorem ptrs_refs : ∀ (x : AV), ∀ i ∈ x.ptrs, i ∈ x.refs
  | .agg cs, i, hi => by simp only [AV.refs]; exact ptrsL_refs cs i (by simpa [AV.ptrs] using hi)
  | .tup cs, i, hi => by simp only [AV.refs]; exact ptrsL_refs cs i (by simpa [AV.ptrs] using hi)
  | .ifc _ x, i, hi => by simp only [AV.refs]; exact ptrs_refs x i (by simpa [AV.ptrs] using hi)
  | .fn _ a c, i, hi => by
    simp only [AV.ptrs, List.mem_append] at hi
    simp only [AV.refs, List.mem_append]
    exact hi.imp (ptrsL_refs a i) (ptrsL_refs c i)
  | .ptr _ _, i, hi => by simpa [AV.ptrs, AV.refs] using hi
  | .eptr _ _ _, i, hi => by simpa [AV.ptrs, AV.refs] using hi
  | .mref _, i, hi => by simpa [AV.ptrs, AV.refs] using hi
  | .own _ _ _, i, hi => by cases hi
  | .dat _, i, hi => by cases hi
  | .dptr _, i, hi => by cases hi
  | .nil _ _ _, i, hi => by cases hi
  | .top, i, hi => by cases hi
theorem ptrsL_refs : ∀ (l : List AV), ∀ i ∈ AV.ptrsL l, i ∈ AV.refsL l
  | [], i, hi => by cases hi
  | x :: l, i, hi => by
    simp only [AV.ptrsL, List.mem_append] at hi
    simp only [AV.refsL, List.mem_append]
    exact hi.imp (ptrs_refs x i) (ptrsL_refs l i)
end

theorem refsL_mem : ∀ {l : List AV} {x : AV} {i : Nat}, x ∈ l → i ∈ x.refs → i ∈ AV.refsL l
  | y :: l, x, i, hx, hi => by
    simp only [AV.refsL, List.mem_append]
    rcases List.mem_cons.1 hx with rfl | hx
    · exact .inl hi
    · exact .inr (refsL_mem hx hi)

theorem allDat_eq : ∀ {cs : List AV} {ds : List Dat}, allDat cs = some ds → cs = ds.map .dat
  | [], ds, h => by simp only [allDat, Option.some.injEq] at h; subst h; rfl
  | x :: r, ds, h => by
    cases x <;> simp only [allDat] at h <;> first | (cases h; done) | skip
    split at h <;> first | (cases h; done) | skip
    rename_i l hl
    injection h with h; subst h
    rw [allDat_eq hl]; rfl

theorem RV.mkAggV {cs : List AV} {v : Value} (h : RV C w v (.agg cs)) : RV C w v (mkAggV cs) := by
  unfold Ax.mkAggV
  split
  · rename_i ds hd
    have := allDat_eq hd
    subst this
    cases h with
    | agg vs _ hn h =>
      refine .dat (.agg vs ds (by simpa using hn) (fun j d v hd hv => ?_))
      have := h j (.dat d) v (by simp [hd]) hv
      cases this with
      | dat h => exact h
  · exact h

theorem mkAggV_refs {cs : List AV} : ∀ i ∈ (Ax.mkAggV cs).refs, i ∈ AV.refsL cs := by
  intro i hi
  unfold Ax.mkAggV at hi
  split at hi
  · simp [AV.refs] at hi
  · exact hi

mutual
/-- Own slices as data. -/
theorem strip_sound (hH : RH C w Hp) (hF : ∀ b, C.Fz b → C'.Fz b) : ∀ (x x' : AV), x.strip H = some x' → (∀ i ∈ x.refs, Hp i = H[i]?) → (∀ i ∈ x.owns, ∀ b k, H[i]? = some b → Lies b (C.ρ i) k → C'.Fz k) →
    (∀ i ∈ x.ptrs, C.D i → C'.D i ∧ C'.ρ i = C.ρ i ∧ C'.sz i = C.sz i) → ∀ v, RV C w v x → RV C' w v x'
  | .own id off len, x', h, hHp, hl, hr, v, hv => by
    simp only [AV.strip] at h
    split at h <;> first | (cases h; done) | skip
    rename_i e sz fl fz xs hb
    split at h <;> first | (cases h; done) | skip
    rename_i hle
    simp only [Option.some.injEq] at h; subst h
    exact .dat (own_RD (hH.blk id _ ((hHp id (by simp [AV.refs])).trans hb)) hle hF (fun k hk => hl id (by simp [AV.owns]) _ k hb hk) hv)
  | .agg cs, x', h, hHp, hl, hr, v, hv => by
    simp only [AV.strip, Option.map_eq_some_iff] at h
    obtain ⟨cs', hcs, rfl⟩ := h
    cases hv with
    | agg vs _ hn h =>
      have := stripL_sound hH hF cs cs' hcs (fun i hi => hHp i (by simpa [AV.refs] using hi)) (fun i hi => hl i (by simpa [AV.owns] using hi)) (fun i hi => hr i (by simpa [AV.ptrs] using hi)) vs.toList ⟨by simpa using hn, fun j u x hu hx => h j x u hx (by simpa using hu)⟩
      exact RV.mkAggV (.agg vs _ (by simpa using this.1) (fun j c v hc hv => this.2 j v c (by simpa using hv) hc))
  | .ifc t x, x', h, hHp, hl, hr, v, hv => by
    simp only [AV.strip, Option.map_eq_some_iff] at h
    obtain ⟨y, hy, rfl⟩ := h
    cases hv with
    | ifc _ v _ hv => exact .ifc t v _ (strip_sound hH hF x y hy (fun i hi => hHp i (by simpa [AV.refs] using hi)) (fun i hi => hl i (by simpa [AV.owns] using hi)) (fun i hi => hr i (by simpa [AV.ptrs] using hi)) v hv)
  | .fn g xs ys, x', h, hHp, hl, hr, v, hv => by
    simp only [AV.strip] at h
    split at h <;> first | (cases h; done) | skip
    rename_i xs' hxs
    simp only [Option.map_eq_some_iff] at h
    obtain ⟨ys', hys, rfl⟩ := h
    cases hv with
    | fn _ as cs _ _ hn hm h h' =>
      have h1 := stripL_sound hH hF xs xs' hxs (fun i hi => hHp i (by simp [AV.refs, hi])) (fun i hi => hl i (by simp [AV.owns, hi])) (fun i hi => hr i (by simp [AV.ptrs, hi])) as.toList ⟨by simpa using hn, fun j u x hu hx => h j x u hx (by simpa using hu)⟩
      have h2 := stripL_sound hH hF ys ys' hys (fun i hi => hHp i (by simp [AV.refs, hi])) (fun i hi => hl i (by simp [AV.owns, hi])) (fun i hi => hr i (by simp [AV.ptrs, hi])) cs.toList ⟨by simpa using hm, fun j u x hu hx => h' j x u hx (by simpa using hu)⟩
      exact .fn g as cs _ _ (by simpa using h1.1) (by simpa using h2.1) (fun j c v hc hv => h1.2 j v c (by simpa using hv) hc) (fun j c v hc hv => h2.2 j v c (by simpa using hv) hc)
  | .dat d, x', h, _, _, hr, v, hv => by
    simp only [AV.strip, Option.some.injEq] at h; subst h
    exact hv.move hF (fun _ _ => rfl) (by first | exact hr | (intro i hi; cases hi))
  | .ptr _ _, x', h, _, _, hr, v, hv => by
    simp only [AV.strip, Option.some.injEq] at h; subst h
    exact hv.move hF (fun _ _ => rfl) (by first | exact hr | (intro i hi; cases hi))
  | .eptr _ _ _, x', h, _, _, hr, v, hv => by
    simp only [AV.strip, Option.some.injEq] at h; subst h
    exact hv.move hF (fun _ _ => rfl) (by first | exact hr | (intro i hi; cases hi))
  | .mref _, x', h, _, _, hr, v, hv => by
    simp only [AV.strip, Option.some.injEq] at h; subst h
    exact hv.move hF (fun _ _ => rfl) (by first | exact hr | (intro i hi; cases hi))
  | .dptr _, x', h, _, _, hr, v, hv => by
    simp only [AV.strip, Option.some.injEq] at h; subst h
    exact hv.move hF (fun _ _ => rfl) (by first | exact hr | (intro i hi; cases hi))
  | .nil _ sz fl, x', h, _, _, hr, v, hv => by
    simp only [AV.strip, Option.some.injEq] at h; subst h
    cases hv with
    | nil => exact .dat (.sl0 _ 0 sz fl (fun _ => rfl))
  | .tup _, x', h, _, _, _, _, _ => by simp [AV.strip] at h
  | .top, x', h, _, _, _, _, _ => by simp [AV.strip] at h
theorem stripL_sound (hH : RH C w Hp) (hF : ∀ b, C.Fz b → C'.Fz b) : ∀ (l l' : List AV), AV.stripL H l = some l' → (∀ i ∈ AV.refsL l, Hp i = H[i]?) → (∀ i ∈ AV.ownsL l, ∀ b k, H[i]? = some b → Lies b (C.ρ i) k → C'.Fz k) →
    (∀ i ∈ AV.ptrsL l, C.D i → C'.D i ∧ C'.ρ i = C.ρ i ∧ C'.sz i = C.sz i) → ∀ us, RL C w us l → RL C' w us l'
  | [], l', h, _, _, _, us, hR => by
    simp only [AV.stripL, Option.some.injEq] at h; subst h
    exact ⟨hR.1, fun j u x _ hx => by simp at hx⟩
  | x :: l, l', h, hHp, hl, hr, us, hR => by
    simp only [AV.stripL] at h
    split at h <;> first | (cases h; done) | skip
    rename_i d hd
    split at h <;> first | (cases h; done) | skip
    rename_i r hr'
    simp only [Option.some.injEq] at h; subst h
    cases us with
    | nil => have := hR.1; simp at this
    | cons u us =>
      exact RL.cons (strip_sound hH hF x d hd (fun i hi => hHp i (by simp [AV.refsL, hi])) (fun i hi => hl i (by simp [AV.ownsL, hi])) (fun i hi => hr i (by simp [AV.ptrsL, hi])) u (hR.2 0 u x rfl rfl))
        (stripL_sound hH hF l r hr' (fun i hi => hHp i (by simp [AV.refsL, hi])) (fun i hi => hl i (by simp [AV.ownsL, hi])) (fun i hi => hr i (by simp [AV.ptrsL, hi])) us (by simpa using hR.drop 1))
end

/-- What a call leaves. -/
def FnPost (C : Ctx) (w : World) (H : List Blk) (r : AV) (H' : List Blk) (e : Ending) (w' : World) : Prop :=
  ∃ v C', e = .returned v ∧ RV C' w' v r ∧ Local C C' w w' H H' (at_ H) (List.range H.length)

structure CFSound [Gls] (P : Program) (cf : CallF) : Prop where
  fn : ∀ f args H r H', cf f args H = some (r, H') → ∃ fn, P.funcs[f]? = some fn ∧ (fn.name == "runtime.NumGoroutine") = false ∧ fn.body.isNone = false
  calls : ∀ f args H r H', cf f args H = some (r, H') → ∀ (C : Ctx) (w : World) (vs : List Value), RL C w vs args → RH C w (at_ H) → (∀ i, C.D i ↔ i < H.length) → GlR C w → Calls P f vs.toArray w (FnPost C w H r H')


mutual
theorem owns_refs : ∀ (x : AV), ∀ i ∈ x.owns, i ∈ x.refs
  | .own _ _ _, i, hi => by simpa [AV.owns, AV.refs] using hi
  | .agg cs, i, hi => by simp only [AV.refs]; exact ownsL_refs cs i (by simpa [AV.owns] using hi)
  | .ifc _ x, i, hi => by simp only [AV.refs]; exact owns_refs x i (by simpa [AV.owns] using hi)
  | .fn _ a c, i, hi => by
    simp only [AV.owns, List.mem_append] at hi
    simp only [AV.refs, List.mem_append]
    exact hi.imp (ownsL_refs a i) (ownsL_refs c i)
  | .dat _, i, hi => by cases hi
  | .ptr _ _, i, hi => by cases hi
  | .eptr _ _ _, i, hi => by cases hi
  | .dptr _, i, hi => by cases hi
  | .mref _, i, hi => by first | cases hi | simpa [AV.owns, AV.refs] using hi
  | .nil _ _ _, i, hi => by cases hi
  | .tup _, i, hi => by cases hi
  | .top, i, hi => by cases hi
theorem ownsL_refs : ∀ (l : List AV), ∀ i ∈ AV.ownsL l, i ∈ AV.refsL l
  | [], i, hi => by cases hi
  | x :: l, i, hi => by
    simp only [AV.ownsL, List.mem_append] at hi
    simp only [AV.refsL, List.mem_append]
    exact hi.imp (owns_refs x i) (ownsL_refs l i)
end

mutual
theorem strip_owns : ∀ (x x' : AV), x.strip H = some x' → ∀ i ∈ x.owns, ∃ e sz fl fz xs, H[i]? = some (.arr e sz fl fz xs)
  | .own id off len, x', h, i, hi => by
    simp only [AV.owns, List.mem_singleton] at hi; subst hi
    simp only [AV.strip] at h
    split at h <;> first | (cases h; done) | skip
    rename_i e sz fl fz xs hb
    exact ⟨e, sz, fl, fz, xs, hb⟩
  | .agg cs, x', h, i, hi => by
    simp only [AV.strip, Option.map_eq_some_iff] at h
    obtain ⟨cs', hcs, rfl⟩ := h
    exact stripL_owns cs cs' hcs i (by simpa [AV.owns] using hi)
  | .ifc t x, x', h, i, hi => by
    simp only [AV.strip, Option.map_eq_some_iff] at h
    obtain ⟨y, hy, rfl⟩ := h
    exact strip_owns x y hy i (by simpa [AV.owns] using hi)
  | .fn g xs ys, x', h, i, hi => by
    simp only [AV.strip] at h
    split at h <;> first | (cases h; done) | skip
    rename_i xs' hxs
    simp only [Option.map_eq_some_iff] at h
    obtain ⟨ys', hys, rfl⟩ := h
    simp only [AV.owns, List.mem_append] at hi
    rcases hi with hi | hi
    · exact stripL_owns xs xs' hxs i hi
    · exact stripL_owns ys ys' hys i hi
  | .dat _, _, _, i, hi => by cases hi
  | .ptr _ _, _, _, i, hi => by cases hi
  | .eptr _ _ _, _, _, i, hi => by cases hi
  | .dptr _, _, _, i, hi => by cases hi
  | .nil _ _ _, _, _, i, hi => by cases hi
  | .tup _, _, _, i, hi => by cases hi
  | .top, _, _, i, hi => by cases hi
theorem stripL_owns : ∀ (l l' : List AV), AV.stripL H l = some l' → ∀ i ∈ AV.ownsL l, ∃ e sz fl fz xs, H[i]? = some (.arr e sz fl fz xs)
  | [], _, _, i, hi => by cases hi
  | x :: l, l', h, i, hi => by
    simp only [AV.stripL] at h
    split at h <;> first | (cases h; done) | skip
    rename_i d hd
    split at h <;> first | (cases h; done) | skip
    rename_i r hr
    simp only [AV.ownsL, List.mem_append] at hi
    rcases hi with hi | hi
    · exact strip_owns x d hd i hi
    · exact stripL_owns l r hr i hi
end

theorem Local.widen (L : Local C C' w w' H H' Hp wr) (hH : RH C w Hp) {wr2 : List Nat} (hsub : ∀ i ∈ wr, i ∈ wr2) (hHp : ∀ i ∈ wr2, Hp i = H[i]?) (hlt : ∀ i ∈ wr2, i < H.length) : Local C C' w w' H H' Hp wr2 := by
  have hR := L.heap hH
  have hupd : ∀ i b, Tch H H' wr2 i → H'[i]? = some b → upd Hp H H' wr i = some b := fun i b ht hb => by
    unfold upd
    by_cases h : Tch H H' wr i
    · rw [if_pos h]; exact hb
    · rw [if_neg h]
      rcases ht with ht | ht
      · have hn : i ∉ wr := fun hi => h (.inl hi)
        rw [hHp i ht, ← L.same i (hlt i ht) hn]; exact hb
      · exact absurd (.inr ht) h
  have hD : ∀ i ∈ wr2, C.D i := fun i hi => by
    have := List.getElem?_eq_getElem (hlt i hi)
    exact hH.dom i _ ((hHp i hi).trans this)
  refine ⟨L.keeps, L.os, L.tape, L.output, L.size, L.len, fun i hi hn => L.same i hi (fun h => hn (hsub i h)), fun k hk => ?_, fun k hk => ?_, L.ltF, hD, L.dom, fun i b ht hb => hR.blk i b (hupd i b ht hb), fun i b k ht hb hl => ?_, fun i j b b' k hi hj hb hb' hl hl' => hR.inj i j b b' k (hupd i b hi hb) (hupd j b' hj hb') hl hl'⟩
  · rcases L.frame k hk with h | ⟨i, hi, b, hb, hw⟩
    · exact .inl h
    · exact .inr ⟨i, hsub i hi, b, hb, hw⟩
  · rcases L.newF k hk with h | h | ⟨i, hi, b, hb, hw⟩
    · exact .inl h
    · exact .inr (.inl h)
    · exact .inr (.inr ⟨i, hsub i hi, b, hb, hw⟩)
  · by_cases h : Tch H H' wr i
    · rcases L.lies i b k h hb hl with h | ⟨j, hj, b0, hb0, hl0⟩
      · exact .inl h
      · exact .inr ⟨j, hsub j hj, b0, hb0, hl0⟩
    · rcases ht with ht | ht
      · have hn : i ∉ wr := fun hi => h (.inl hi)
        have hb' : Hp i = some b := by rw [hHp i ht, ← L.same i (hlt i ht) hn]; exact hb
        rw [L.keeps.rho i (hD i ht)] at hl
        exact .inr ⟨i, ht, b, hb', hl⟩
      · exact absurd (.inr ht) h

theorem RD.flat_any {F F' : Nat → Prop} {v : Value} {d : Dat} (h : RD F w v d) (hf : d.flat = true) : RD F' w v d := by
  induction h with
  | bool b => exact .bool b
  | int k n => exact .int k n
  | str s => exact .str s
  | nilp => exact .nilp
  | nilf => exact .nilf
  | nili => exact .nili
  | nilm => exact .nilm
  | sl0 a cap sz fl hn => simp [Dat.flat] at hf
  | sl => simp [Dat.flat] at hf
  | agg vs ds hn h ih =>
    simp only [Dat.flat] at hf
    exact .agg vs ds hn (fun j d v hd hv => ih j d v hd hv (flats_mem hf d (List.mem_of_getElem? hd)))

mutual
/-- What holds no memory of an argument. -/
theorem safe_rename {f : Nat → Nat} : ∀ (x : AV), x.safe H = true → ∀ v, RV C w v x → (∀ i ∈ x.refs, C.D i → Ren C C' w w' f i) → RV C' w v (x.ren f)
  | .dat d, h, v, hv, _ => by
    simp only [AV.safe] at h
    cases hv with | dat hv => exact .dat (hv.flat_any h)
  | .own id off len, h, v, hv, hr => by
    cases hv with
    | own _ _ _ g cap hD hρ hl =>
      have hR := hr id (by simp [AV.refs]) hD
      rw [← hR.siz]; exact .own _ _ _ g cap hR.dom (hR.rho.trans hρ) hl
    | own0 b _ hD hρ =>
      have hR := hr id (by simp [AV.refs]) hD
      exact .own0 b _ hR.dom (hR.rho.trans hρ)
  | .nil e sz fl, h, v, hv, _ => by cases hv; exact .nil _ e sz fl
  | .agg cs, h, v, hv, hr => by
    simp only [AV.safe] at h
    cases hv with
    | agg vs _ hn hc =>
      have := safeL_rename cs h vs.toList ⟨by simpa using hn, fun j u x hu hx => hc j x u hx (by simpa using hu)⟩ (fun i hi => hr i (by simpa [AV.refs] using hi))
      exact .agg vs _ (by simpa using this.1) (fun j c v hc hv => this.2 j v c (by simpa using hv) hc)
  | .tup cs, h, v, hv, hr => by
    simp only [AV.safe] at h
    cases hv with
    | tup vs _ hn hc =>
      have := safeL_rename cs h vs.toList ⟨by simpa using hn, fun j u x hu hx => hc j x u hx (by simpa using hu)⟩ (fun i hi => hr i (by simpa [AV.refs] using hi))
      exact .tup vs _ (by simpa using this.1) (fun j c v hc hv => this.2 j v c (by simpa using hv) hc)
  | .ifc t x, h, v, hv, hr => by
    simp only [AV.safe] at h
    cases hv with
    | ifc _ v _ hv => exact .ifc t v _ (safe_rename x h v hv (fun i hi => hr i (by simpa [AV.refs] using hi)))
  | .ptr _ _, h, _, _, _ => by simp [AV.safe] at h
  | .eptr _ _ _, h, _, _, _ => by simp [AV.safe] at h
  | .dptr _, h, _, _, _ => by simp [AV.safe] at h
  | .mref _, h, _, _, _ => by simp [AV.safe] at h
  | .fn _ _ _, h, _, _, _ => by simp [AV.safe] at h
  | .top, h, _, _, _ => by simp [AV.safe] at h
theorem safeL_rename {f : Nat → Nat} : ∀ (l : List AV), AV.safeL H l = true → ∀ us, RL C w us l → (∀ i ∈ AV.refsL l, C.D i → Ren C C' w w' f i) → RL C' w us (AV.renL f l)
  | [], _, us, h, _ => ⟨by simpa [AV.renL] using h.1, fun j u x _ hx => by simp [AV.renL] at hx⟩
  | x :: l, hs, us, h, hr => by
    simp only [AV.safeL, Bool.and_eq_true] at hs
    cases us with
    | nil => have := h.1; simp at this
    | cons u us =>
      exact RL.cons (safe_rename x hs.1 u (h.2 0 u x rfl rfl) (fun i hi => hr i (by simp [AV.refsL, hi]))) (safeL_rename l hs.2 us (by simpa using h.drop 1) (fun i hi => hr i (by simp [AV.refsL, hi])))
end

theorem Lies.ren {b : Blk} {f : Nat → Nat} {l : Loc} {k : Nat} : Lies (b.ren f) l k ↔ Lies b l k := by
  cases b <;> cases l <;> simp [Blk.ren, Lies]

/-- The caller's context behind a call without pointers. -/
def ctxCall (C C1 : Ctx) (w : World) (H H1 : List Blk) (ids : List Nat) : Ctx where
  ρ i := if H.length ≤ i ∧ i < H.length + H1.length then C1.ρ (i - H.length) else C.ρ i
  sz i := if H.length ≤ i ∧ i < H.length + H1.length then C1.sz (i - H.length) else C.sz i
  D i := C.D i ∨ (H.length ≤ i ∧ i < H.length + H1.length)
  Fz k := C.Fz k ∨ (∃ i ∈ ids, ∃ b, H[i]? = some b ∧ Lies b (C.ρ i) k) ∨ (w.heap.size ≤ k ∧ C1.Fz k)

end Go.Ax
